import Derived.Test.YtcfjbaanahgpoaaIpX
import Derived.Deep.RegionHeld3
import Derived.Deep.CutBlock
namespace Go.Proofs.Ytcfjbaanahgpoaa
open Go Go.RowKit
set_option maxRecDepth 100000
set_option linter.unusedVariables false
set_option linter.unusedSimpArgs false
/-- The bytes of functions. -/
def cdF (OF : Nat → Ops) (fs : List Nat) : List UInt8 := fs.flatMap fun f => encAll (finO (OF f))
theorem cdF_snoc (OF : Nat → Ops) (fs : List Nat) (f : Nat) : cdF OF (fs ++ [f]) = cdF OF fs ++ encAll (finO (OF f)) := by simp [cdF]
/-- The symbols of functions. -/
def syF (OF : Nat → Ops) (nm : Nat → ByteArray) : Int → List Nat → List Sy
  | _, [] => []
  | a, f :: fs => (nm f, a, szA (OF f)) :: syF OF nm (a + szA (OF f)) fs
theorem syF_snoc (OF : Nat → Ops) (nm : Nat → ByteArray) (f : Nat) : ∀ (fs : List Nat) (a : Int), syF OF nm a (fs ++ [f]) = syF OF nm a fs ++ [(nm f, a + sumS OF fs, szA (OF f))] := by
  intro fs
  induction fs with
  | nil => intro a; simp [syF, sumS]
  | cons g fs ih =>
    intro a
    simp only [List.cons_append, syF, ih]
    congr 4
    simp [sumS]
    omega
theorem syF_length (OF : Nat → Ops) (nm : Nat → ByteArray) : ∀ (fs : List Nat) (a : Int), (syF OF nm a fs).length = fs.length := by
  intro fs
  induction fs with
  | nil => intro a; rfl
  | cons g fs ih => intro a; simp [syF, ih]
theorem finO_get (O : Ops) (k : Nat) (hk : k < O.length) : (finO O)[k]'(by rw [finO_length]; exact hk) = (O[k].1, argO O k O[k]) := by simp [finO]
theorem enc_take_len {O : Ops} (h : OpsOk O) : ∀ k : Nat, k ≤ O.length → ((encAll ((finO O).take k)).length : Int) = szO O k := by
  intro k
  induction k with
  | zero => intro _; simp [encAll, szO]
  | succ k ih =>
    intro hk
    have h1 := ih (by omega)
    have hk' : k < (finO O).length := by rw [finO_length]; omega
    rw [encAll_take (finO O) k hk', List.length_append, szO_succ O k (by omega), ← h1]
    have h2 := finO_ok h _ (List.getElem_mem hk')
    rw [encOp_len h2, finO_get O k (by omega)]
    obtain ⟨⟨g1, g2, _⟩, _⟩ := h.2 _ (List.getElem_mem (show k < O.length by omega))
    unfold opSizeF
    rw [if_pos ⟨g1, g2⟩]
    simp
theorem enc_len {O : Ops} (h : OpsOk O) : ((encAll (finO O)).length : Int) = szA O := by
  have h1 := enc_take_len h O.length (Nat.le_refl _)
  rw [List.take_of_length_le (by rw [finO_length]; exact Nat.le_refl _)] at h1
  exact h1
theorem cdF_len {OF : Nat → Ops} : ∀ (fs : List Nat), (∀ f ∈ fs, OpsOk (OF f)) → ((cdF OF fs).length : Int) = sumS OF fs := by
  intro fs
  induction fs with
  | nil => intro _; simp [cdF, sumS]
  | cons f fs ih =>
    intro h
    have h1 := enc_len (h f (List.mem_cons_self))
    have h2 := ih (fun g hg => h g (List.mem_cons_of_mem _ hg))
    unfold cdF sumS at h2 ⊢
    rw [List.flatMap_cons, List.length_append, List.map_cons, List.sum_cons]
    omega
theorem finO_places (O : Ops) (a : Int) (k : Nat) (hk : k < O.length) : (plsO O a)[k]'(by rw [plsO_length]; exact hk) = (a + szO O k, (finO O)[k]'(by rw [finO_length]; exact hk)) := by simp [plsO, finO]
/-- The name of a function. -/
def nmF (L : List Ln) (f : Nat) : ByteArray := (lnAtD L ((funsF L).getD f 0).toNat).2.1
theorem Try.infoImg : (Try.prog.info? 42).map (fun i => (i.zero, i.size, i.bytes)) = some (some (.agg #[.string ByteArray.empty, .slice none 0 0]), 2, 40) := by kernel_rfl
/-- What AssembleImage answers. -/
def AsR (w' : World) (OF : Nat → Ops) (nm : Nat → ByteArray) (fs : List Nat) (e : Ending) : Prop := ∃ (A : Option Addr) (c : Nat), e = .returned (.agg #[.string ⟨(cdF OF fs).toArray⟩, .slice A (syF OF nm 0 fs).length c]) ∧ ImIn w' (⟨(cdF OF fs).toArray⟩, syF OF nm 0 fs) A c
theorem grownBy_trans {a b c : World} {row : Option Nat} (h : a.grownBy b row) (k : b.grownBy c row) : a.grownBy c row := only_trans h k
theorem grownBy_new {a b c : World} {g : Nat} {row : Option Nat} (h : a.grownBy b (some g)) (k : b.grownBy c row) (hr : ∀ x, row = some x → a.heap.size ≤ x ∨ x = g) : a.grownBy c (some g) :=
  ⟨k.os.trans h.os, k.tape.trans h.tape, k.output.trans h.output, Nat.le_trans h.size k.size, fun i hi hne => (k.block i (Nat.lt_of_lt_of_le hi h.size) (fun e => by
    rcases hr i e.symm with h1 | h1
    · omega
    · exact hne (by rw [h1]))).trans (h.block i hi hne)⟩
theorem grownBy_below {a b c : World} {g : Nat} (h : a.grownBy b (some g)) (k : Below b.heap.size b c) : a.grownBy c (some g) := grownBy_new h (only_of_below k none) (fun x e => by cases e)
theorem RowL.grownBy {w w' : World} {lo g n size : Nat} {A : Option Addr} {xs : List Value} (h : RowL w lo A n size xs) (hg : w.grownBy w' (some g)) (hl : g < lo) : RowL w' lo A n size xs :=
  h.kept hg.size (fun k hk hlo => hg.block k hk (fun e => by injection e with e; omega))
set_option maxHeartbeats 8000000 in
theorem i_assembleNil (A : Option Addr) (n c image : Nat) (fr inl : Int) (fold split : Bool) (L : List Ln) (w : World) (h : InLines w A n L) (hsz : ∀ x ∈ L, LnSz x) (hT : n + lnTot L ≤ 1048576) (hp : progS L = false) :
    Calls Try.prog 18 #[.slice A n c, .agg #[.int .i64 fr, .int .i64 inl, .bool fold, .bool split], .int .i64 image] w fun e w' => e = .returned (.agg #[.string ⟨#[]⟩, .slice none 0 0]) ∧ Below w.heap.size w w' := by
  have H := hide h
  have HSZ := hide hsz
  have HP := hide hp
  clear h hsz hp
  go_enter Try.func18, Try.ntmps18
  go_wp2_with fail
  have KI := hide (blk_new' (w := w.alloc (.cells #[.int .i64 fr, .int .i64 inl, .bool fold, .bool split] 37)) (b := w.heap.size + 1) (t := 42) (cs := #[.string ⟨#[]⟩, .slice none 0 0]) (by simp))
  have BB := hide (((Below.refl w.heap.size w).alloc (Nat.le_refl _) (.cells #[.int .i64 fr, .int .i64 inl, .bool fold, .bool split] 37)).alloc (by simp) (.cells #[.string ⟨#[]⟩, .slice none 0 0] 42))
  generalize (w.alloc (.cells #[.int .i64 fr, .int .i64 inl, .bool fold, .bool split] 37)).alloc (.cells #[.string ⟨#[]⟩, .slice none 0 0] 42) = w0 at *
  refine (i_programOkF A n c L _ hT (H.out.below BB.out) HSZ.out).mono ?_
  rintro e w1 ⟨rfl, hb1⟩
  rw [HP.out]
  have B1 := hide (BB.out.trans (hb1.mono BB.out.size))
  have K1 := hide (KI.out.below hb1 KI.out.lt)
  have n0 := K1.out.cell 0
  have n1 := K1.out.cell 1
  have f0 := K1.out.frozen 0
  have f1 := K1.out.frozen 1
  simp at n0 n1
  clear hb1
  go_wp2_with fail
  have K2 := hide ((K1.out.set_ 0 (.string ⟨#[]⟩)).set_ 1 (.slice none 0 0))
  have r0 := K2.out.cell 0
  have r1 := K2.out.cell 1
  simp at r0 r1
  exact bodyPost_ret (v := .agg #[.string ⟨#[]⟩, .slice none 0 0]) (by simp [results, Try.results18, go_sem, r0, r1]) rfl ⟨rfl, (B1.out.setCell (p := ⟨w.heap.size + 1, 0, none⟩) (Nat.le_succ _) _).setCell (p := ⟨w.heap.size + 1, 1, none⟩) (Nat.le_succ _) _⟩
theorem imG_get (OF : Nat → Ops) : ∀ (fs : List Nat) (a : Int) (i : Nat) (h : i < fs.length), (imG OF a fs)[i]'(by rw [imG_length]; exact h) = plsO (OF fs[i]) (a + sumS OF (fs.take i)) := by
  intro fs
  induction fs with
  | nil => intro a i h; simp at h
  | cons f fs ih =>
    intro a i h
    cases i with
    | zero => simp [imG, sumS]
    | succ i =>
      simp only [imG, List.getElem_cons_succ, List.take_succ_cons]
      rw [ih (a + szA (OF f)) i (by simpa using h)]
      congr 1
      simp [sumS]
      omega
set_option maxHeartbeats 8000000 in
theorem i_assembleImage (A : Option Addr) (n c image : Nat) (fr inl : Int) (fold split : Bool) (L : List Ln) (w : World) (h : InLines w A n L) (hp : progS L = true) (hfr : 0 ≤ fr ∧ fr ≤ 63) (hinl : 0 ≤ inl ∧ inl ≤ 3) (hi1 : image ≤ 1) :
    Calls Try.prog 18 #[.slice A n c, .agg #[.int .i64 fr, .int .i64 inl, .bool fold, .bool split], .int .i64 image] w fun e w' => AsR w' (ofF fr inl fold L) (nmF L) (imFs split image (funsF L).length) e ∧ Below w.heap.size w w' := by
  obtain ⟨i0, hi0, hz0, hz1, hz2⟩ := info_parts Try.infoSym
  have HI0 := hide hi0
  clear hi0
  have H := hide h
  have HP := hide hp
  have hlen := h.len
  have HLN := hide hlen
  obtain ⟨⟨hl1, hl60⟩, hok⟩ := prog_lines hp
  have HSZ : Hid (∀ x ∈ L, LnSz x) := fun x hx => (lineOk_szQ (hok x hx)).1
  have hT : n + lnTot L ≤ 1048576 := by have h1 := lnTot_leQ L (fun x hx => (lineOk_szQ (hok x hx)).2); omega
  have hf6 : (funsF L).length ≤ 6 := (yes_out hp).2.2.2.1
  have PE := hide (prog_end hp)
  obtain ⟨OF, hOF⟩ : ∃ OF : Nat → Ops, OF = ofF fr inl fold L := ⟨_, rfl⟩
  obtain ⟨nm, hnm⟩ : ∃ nm : Nat → ByteArray, nm = nmF L := ⟨_, rfl⟩
  obtain ⟨fs, hfs⟩ : ∃ fs : List Nat, fs = imFs split image (funsF L).length := ⟨_, rfl⟩
  have IP : Hid (∀ w', InLines w' A n L → Calls Try.prog 44 #[.slice A n c, .agg #[.int .i64 fr, .int .i64 inl, .bool fold, .bool split], .int .i64 image] w' fun e w'' => ImR w'.heap.size w'' OF fs e ∧ Below w'.heap.size w' w'') := by
    rw [hOF, hfs]
    exact fun w' h' => i_imagePlaces A n c image fr inl fold split L w' h' hp hfr hinl hi1
  have hfsl : fs.length ≤ 6 := by rw [hfs]; exact Nat.le_trans (imFs_len _ _ _) hf6
  have HFL : Hid (∀ f ∈ fs, f < (funsF L).length) := fun f hf => (imFs_lt (by rw [← hfs]; exact hf)).1
  have HNM := hide hnm
  rw [← hOF, ← hfs, ← hnm]
  clear h hp hok hOF hfs hnm
  go_enter Try.func18, Try.ntmps18
  go_wp2_with fail
  have KB := hide ((Blk.new w 37 #[.int .i64 fr, .int .i64 inl, .bool fold, .bool split]).alloc (.cells #[.string ⟨#[]⟩, .slice none 0 0] 42))
  have KI := hide (blk_new' (w := w.alloc (.cells #[.int .i64 fr, .int .i64 inl, .bool fold, .bool split] 37)) (b := w.heap.size + 1) (t := 42) (cs := #[.string ⟨#[]⟩, .slice none 0 0]) (by simp))
  have BB := hide (((Below.refl w.heap.size w).alloc (Nat.le_refl _) (.cells #[.int .i64 fr, .int .i64 inl, .bool fold, .bool split] 37)).alloc (by simp) (.cells #[.string ⟨#[]⟩, .slice none 0 0] 42))
  generalize (w.alloc (.cells #[.int .i64 fr, .int .i64 inl, .bool fold, .bool split] 37)).alloc (.cells #[.string ⟨#[]⟩, .slice none 0 0] 42) = w0 at *
  refine (i_programOkF A n c L _ hT (H.out.below BB.out) HSZ.out).mono ?_
  rintro e w1 ⟨rfl, hb1⟩
  rw [HP.out]
  have B1 := hide (BB.out.trans (hb1.mono BB.out.size))
  have K1 := hide (KB.out.below hb1 KB.out.lt)
  have I1 := hide (KI.out.below hb1 KI.out.lt)
  have n0 := K1.out.cell 0
  have n1 := K1.out.cell 1
  have n2 := K1.out.cell 2
  have n3 := K1.out.cell 3
  simp at n0 n1 n2 n3
  clear hb1
  go_wp2_with fail
  have hbu : (btw fr 0 63 && btw inl 0 3) = true := by simp [btw]; omega
  refine (i_buildOk _ _ _ _ _).mono ?_
  rintro e w2 ⟨rfl, hb2⟩
  rw [hbu]
  have B2 := hide (B1.out.trans (hb2.mono B1.out.size))
  have K2 := hide (K1.out.below hb2 K1.out.lt)
  have I2 := hide (I1.out.below hb2 I1.out.lt)
  clear hb2 n0 n1 n2 n3 hbu
  have hbt : btw (image : Int) 0 1 = true := by simp [btw]; omega
  go_wp2_with fail
  refine (i_between _ _ _ _).mono ?_
  rintro e w' ⟨he, hww⟩
  subst he
  subst hww
  rw [hbt]
  clear hbt
  go_upto_region 4 with fail
  have K3 := hide (K2.out.alloc (.cells #[.string ⟨#[]⟩, .slice none 0 0] 42))
  have I3 := hide (I2.out.alloc (.cells #[.string ⟨#[]⟩, .slice none 0 0] 42))
  have O3 := hide (Blk.new w2 42 #[.string ⟨#[]⟩, .slice none 0 0])
  have B3 := hide (B2.out.alloc B2.out.size (.cells #[.string ⟨#[]⟩, .slice none 0 0] 42))
  have hz3 : (w2.alloc (.cells #[.string ⟨#[]⟩, .slice none 0 0] 42)).heap.size = w2.heap.size + 1 := by simp
  have hgI : w.heap.size + 1 < w2.heap.size := I2.out.lt
  obtain ⟨go, hgo⟩ : ∃ go, go = w2.heap.size := ⟨_, rfl⟩
  rw [← hgo] at hz3 hgI O3 ⊢
  clear hgo
  generalize w2.alloc (.cells #[.string ⟨#[]⟩, .slice none 0 0] 42) = w3 at *
  have n0 := K3.out.cell 0
  have n1 := K3.out.cell 1
  have n2 := K3.out.cell 2
  have n3 := K3.out.cell 3
  simp at n0 n1 n2 n3
  clear K1 K2 I1 I2 B1 B2 KB KI BB
  go_wp2_with fail
  refine (IP.out _ (H.out.below B3.out)).mono ?_
  rintro e w4 ⟨⟨An, cn, Al, cl, G, rfl, hXn, hXl, hXg, hgl, hoks⟩, hb4⟩
  rw [hz3] at hXn hXl hXg
  have XN := hide hXn
  have XL := hide hXl
  have XG := hide hXg
  have GL := hide hgl
  have OKS := hide hoks
  have GS := hide (gr_small hgl (fun g hg => ⟨(hXg g hg).1, (hXg g hg).2.1⟩) hoks)
  have hGl : G.length = fs.length := by
    have h1 := congrArg List.length hgl
    rw [List.length_map, imG_length] at h1
    exact h1
  have HGL := hide hGl
  have B4 := hide (B3.out.trans (hb4.mono B3.out.size))
  have I4 := hide (I3.out.below hb4 I3.out.lt)
  have O4 := hide (O3.out.below hb4 O3.out.lt)
  have hgo4 : go < w4.heap.size := O4.out.lt
  clear hXn hXl hXg hgl hoks hb4 hGl n0 n1 n2 n3 O3 I3 K3
  go_wp2_with fail
  go_loopw [39] (fun iv wr => ∃ (i : Nat) (SA : Option Addr) (sc : Nat) (S : ByteArray), iv = .int .i64 i ∧ i ≤ fs.length ∧ S = ⟨(cdF OF (fs.take i)).toArray⟩ ∧ Blk wr go 42 #[.string S, .slice SA i sc] ∧ wr.ownsRow w4.heap.size 79 3 (.slice SA i sc) i (symCells (syF OF nm 0 (fs.take i))) ∧ w4.grownBy wr (some go)) (fun iv _ => fs.length - (intOf iv).toNat)
  case atStart =>
    exact ⟨0, none, 0, ⟨#[]⟩, rfl, Nat.zero_le _, rfl, O4.out, World.ownsRow_nil _ _ _ _, World.grownBy.refl _ _⟩
  case round =>
    obtain ⟨i, SA, sc, S, rfl, hi, hS, hk, hso, hgb⟩ := hrel
    have HS := hide hS
    have KO := hide hk
    have SO := hide hso
    have GB := hide hgb
    have hgz : go + 1 ≤ w4.heap.size := hgo4
    have XNr := hide (XN.out.grownBy hgb (Nat.lt_succ_self _))
    have XLr := hide (XL.out.grownBy hgb (Nat.lt_succ_self _))
    have Rr := hide (H.out.below (below_only B4.out hgb B4.out.size (by omega)))
    have hSz : (S.size : Int) = sumS OF (fs.take i) := by
      rw [hS]
      show (((cdF OF (fs.take i)).toArray.size : Nat) : Int) = _
      rw [List.size_toArray]
      exact cdF_len _ (fun f hf => OKS.out f (List.mem_of_mem_take hf))
    have hsb := sumS_bound (OF := OF) (fs.take i) (fun f hf => OKS.out f (List.mem_of_mem_take hf))
    have hsl : (fs.take i).length ≤ 6 := by rw [List.length_take]; omega
    have HSZ2 := hide hSz
    have hs100 : S.size ≤ 78000 := by omega
    have k0 := hk.cell 0
    have k1 := hk.cell 1
    simp at k0 k1
    clear hS hk hso hgb hSz hsb hsl
    by_cases hlt : i < fs.length
    · have z : decide ((i : Int) < (fs.length : Int)) = true := decide_eq_true (by omega)
      have z' : decide (i < fs.length) = true := decide_eq_true hlt
      have hig : i < G.length := by rw [HGL.out]; exact hlt
      obtain ⟨bo, oo, hAl, _, hcl⟩ := XLr.out.1.2 (by omega)
      have c0 := hcl i (by omega)
      rw [List.getElem?_map, List.getElem?_eq_getElem hig] at c0
      simp only [Option.map_some, grV] at c0
      obtain ⟨hgn, hgx⟩ := XG.out _ (List.getElem_mem hig)
      have hgs := GS.out _ (List.getElem_mem hig)
      have HFI : Hid (fs[i] < (funsF L).length) := HFL.out _ (List.getElem_mem hlt)
      have OKI := hide (OKS.out _ (List.getElem_mem hlt))
      have HTK : Hid (fs.take (i + 1) = fs.take i ++ [fs[i]]) := List.take_succ_eq_append_getElem hlt
      have HGP : Hid (G[i].P.map plP = plsO (OF fs[i]) (sumS OF (fs.take i))) := by
        show _ = _
        have h1 : (G.map grL)[i]'(by rw [List.length_map]; exact hig) = (imG OF 0 fs)[i]'(by rw [imG_length]; exact hlt) := by simp [GL.out]
        rw [List.getElem_map, imG_get OF fs 0 i hlt, Int.zero_add] at h1
        exact h1
      have GX := hide (hgx.grownBy GB.out (Nat.lt_succ_self _))
      have GN := hide hgn
      subst hAl
      obtain ⟨gA, gn, gc, gP, hgg⟩ : ∃ gA gn gc gP, G[i] = (⟨gA, gn, gc, gP⟩ : Gr) := ⟨_, _, _, _, rfl⟩
      rw [hgg] at c0 hgs HGP GX GN
      change Hid (gP.map plP = plsO (OF fs[i]) (sumS OF (fs.take i))) at HGP
      change Hid (RowL wr (go + 1) gA gn 8 (gP.flatMap plC)) at GX
      change Hid (gP.length = gn) at GN
      change gn ≤ 2600 ∧ 3 ≤ gn at hgs
      change World.cell? _ _ = some (.slice gA gn gc) at c0
      clear hcl hgn hgx hgg
      obtain ⟨f, hf⟩ : ∃ f, f = fs[i] := ⟨_, rfl⟩
      rw [← hf] at HFI OKI HTK HGP
      have HF := hide hf
      clear hf
      have hgl : gn = (OF f).length := by
        have h1 := congrArg List.length HGP.out
        rw [List.length_map, plsO_length, GN.out] at h1
        exact h1
      have HGLn := hide hgl
      clear hgl
      go_wp2_with fail
      rename World => wo
      go_loopw [49] (fun jv wq => ∃ (j : Nat) (T : ByteArray), jv = .int .i64 j ∧ j ≤ gn ∧ T = S ++ ⟨(encAll ((finO (OF f)).take j)).toArray⟩ ∧ Blk wq go 42 #[.string T, .slice SA i sc] ∧ wo.grownBy wq (some go)) (fun jv _ => gn - (intOf jv).toNat)
      case atStart =>
        refine ⟨0, S, rfl, Nat.zero_le _, ?_, KO.out, World.grownBy.refl _ _⟩
        apply ByteArray.ext
        simp [encAll]
      case round =>
        obtain ⟨j, T, rfl, hj, hT, hkq, hgq⟩ := hrel
        have HTT := hide hT
        have KQ := hide hkq
        have GQ := hide hgq
        have GXq := hide (GX.out.grownBy hgq (Nat.lt_succ_self _))
        have hoz : go < wr.heap.size := hkq.lt
        clear hT hkq hgq k0 k1
        by_cases hlt2 : j < gn
        · have z2 : decide ((j : Int) < (gn : Int)) = true := decide_eq_true (by omega)
          have z2' : decide (j < gn) = true := decide_eq_true hlt2
          have hjp : j < gP.length := by rw [GN.out]; exact hlt2
          have hjo : j < (OF f).length := by have := HGLn.out; omega
          obtain ⟨bP, oP, hAP, _, hcP⟩ := GXq.out.1.2 (by omega)
          have q0 := (hcP (j * 8) (by omega)).trans (flat_at plC 8 (fun _ => rfl) gP j 0 hjp (by omega))
          have q1 := (hcP (j * 8 + 1) (by omega)).trans (flat_at plC 8 (fun _ => rfl) gP j 1 hjp (by omega))
          have q2 := (hcP (j * 8 + 2) (by omega)).trans (flat_at plC 8 (fun _ => rfl) gP j 2 hjp (by omega))
          have q3 := (hcP (j * 8 + 3) (by omega)).trans (flat_at plC 8 (fun _ => rfl) gP j 3 hjp (by omega))
          have q4 := (hcP (j * 8 + 4) (by omega)).trans (flat_at plC 8 (fun _ => rfl) gP j 4 hjp (by omega))
          have q5 := (hcP (j * 8 + 5) (by omega)).trans (flat_at plC 8 (fun _ => rfl) gP j 5 hjp (by omega))
          have q6 := (hcP (j * 8 + 6) (by omega)).trans (flat_at plC 8 (fun _ => rfl) gP j 6 hjp (by omega))
          have q7 := (hcP (j * 8 + 7) (by omega)).trans (flat_at plC 8 (fun _ => rfl) gP j 7 hjp (by omega))
          simp [plC, itC] at q0 q1 q2 q3 q4 q5 q6 q7
          rw [← Nat.add_assoc] at q1 q2 q3 q4 q5 q6 q7
          have HPX : Hid ((finO (OF f))[j]'(by rw [finO_length]; exact hjo) = (gP[j].2.code, gP[j].2.arg)) := by
            show _ = _
            have h1 : (gP.map plP)[j]'(by rw [List.length_map]; exact hjp) = (plsO (OF f) (sumS OF (fs.take i)))[j]'(by rw [plsO_length]; exact hjo) := by simp [HGP.out]
            rw [List.getElem_map, finO_places _ _ _ hjo] at h1
            have h2 := congrArg Prod.snd h1
            exact h2.symm
          have HEN : Hid (encAll ((finO (OF f)).take (j + 1)) = encAll ((finO (OF f)).take j) ++ encOpF gP[j].2.code gP[j].2.arg) := by
            show _ = _
            rw [encAll_take (finO (OF f)) j (by rw [finO_length]; exact hjo), HPX.out]
          have hTl : T.size ≤ 91000 := by
            have h1 := enc_take_len OKI.out j (by omega)
            have h2 := szO_bound (OF f) j (by omega)
            have h3 := OKI.out.1
            have h4 : T.size = S.size + (encAll ((finO (OF f)).take j)).length := by
              rw [HTT.out, ByteArray.size_append]
              congr 1
            omega
          obtain ⟨x, hx⟩ : ∃ x, x = gP[j] := ⟨_, rfl⟩
          rw [← hx] at q0 q1 q2 q3 q4 q5 q6 q7 HPX HEN
          have hel : (encOpF x.2.code x.2.arg).length ≤ 5 := by
            unfold encOpF; have := opW_le x.2.code; split <;> simp [opBytes]; omega
          subst hAP
          clear hx hcP
          go_wp2_with fail
          go_upto_region 12 with fail
          have KY := hide (Blk.new wr 51 #[.int .i64 x.1, .int .i64 x.2.code, .int .i64 x.2.arg, .int .i64 x.2.line, .bool x.2.start, .slice x.2.A x.2.n x.2.c, .int .i64 x.2.dep, .bool x.2.ent])
          have BY := hide ((Below.refl wr.heap.size wr).alloc (Nat.le_refl _) (.cells #[.int .i64 x.1, .int .i64 x.2.code, .int .i64 x.2.arg, .int .i64 x.2.line, .bool x.2.start, .slice x.2.A x.2.n x.2.c, .int .i64 x.2.dep, .bool x.2.ent] 51))
          have KQ2 := hide (KQ.out.alloc (.cells #[.int .i64 x.1, .int .i64 x.2.code, .int .i64 x.2.arg, .int .i64 x.2.line, .bool x.2.start, .slice x.2.A x.2.n x.2.c, .int .i64 x.2.dep, .bool x.2.ent] 51))
          generalize wr.alloc (.cells #[.int .i64 x.1, .int .i64 x.2.code, .int .i64 x.2.arg, .int .i64 x.2.line, .bool x.2.start, .slice x.2.A x.2.n x.2.c, .int .i64 x.2.dep, .bool x.2.ent] 51) = wY at *
          have y1 := KY.out.cell 1
          have y2 := KY.out.cell 2
          have k0 := KQ2.out.cell 0
          have f0 := KQ2.out.frozen 0
          simp at y1 y2 k0
          have hyz : wr.heap.size ≤ wY.heap.size := BY.out.size
          have GQ2 := hide (grownBy_below GQ.out BY.out)
          generalize wr.heap.size = xb at *
          clear q0 q1 q2 q3 q4 q5 q6 q7
          have hgoY : go < wY.drew.heap.size := KQ2.out.lt
          have KQd := hide KQ2.out.drew
          have hb1 : T.size + (encOpF x.2.code x.2.arg).toArray.size ≤ 100000 := by rw [List.size_toArray]; omega
          have KYd := hide KY.out.drew
          go_region_with (go_at_call 45; refine (i_encodeOp x.2.code x.2.arg wY.drew).mono ?_; rintro e w5 ⟨rfl, hb5⟩; have B5 := hide hb5; have K5 := hide (KQd.out.below hb5 hgoY); have KY5 := hide (KYd.out.below hb5 KYd.out.lt); have g1 := K5.out.cell 0; have g2 := KY5.out.cell 1; have g3 := KY5.out.cell 2; simp at g1 g2 g3; have f5 := K5.out.frozen 0; clear hb5)
          all_goals
            go_wp2_with fail
          all_goals
            go_roundw
            case rel =>
              refine ⟨j + 1, T ++ ⟨(encOpF x.2.code x.2.arg).toArray⟩, by go_num, by omega, ?_, ?_, only_setCell (p := ⟨go, 0, none⟩) (grownBy_below (only_drew GQ2.out) B5.out) (.inl rfl) _⟩
              · rw [HEN.out, ← bapp, HTT.out]
                apply ByteArray.ext
                simp [ByteArray.data_append]
              · have := K5.out.set_ 0 (.string (T ++ ⟨(encOpF x.2.code x.2.arg).toArray⟩))
                simpa using this
            case measure => simp [intOf]; omega
        · have z2 : decide ((j : Int) < (gn : Int)) = false := decide_eq_false (by omega)
          have z2' : decide (j < gn) = false := decide_eq_false hlt2
          have hjn : j = gn := by omega
          have HTA : Hid (T = S ++ ⟨(encAll (finO (OF f))).toArray⟩) := by
            show _ = _
            rw [HTT.out, List.take_of_length_le (by rw [finO_length]; have := HGLn.out; omega)]
          have hTs : (T.size : Int) = (S.size : Int) + szA (OF f) := by
            rw [HTA.out, ByteArray.size_append]
            have h1 := enc_len OKI.out
            have h2 : (⟨(encAll (finO (OF f))).toArray⟩ : ByteArray).size = (encAll (finO (OF f))).length := rfl
            rw [h2]
            omega
          have hsA := szA_bound OKI.out
          obtain ⟨k0, e0, hk0, _, hke, hel⟩ := PE.out _ (List.getElem_mem HFI.out)
          have hk0L : k0 < L.length := by omega
          have GBq := hide (only_trans GB.out GQ.out)
          have Rq := H.out.below (below_only B4.out GBq.out B4.out.size (by omega))
          have XNq := XNr.out.grownBy GQ.out (Nat.lt_succ_self _)
          obtain ⟨bn, on, hAn, hbn4, _⟩ := XN.out.1.2 (by omega)
          obtain ⟨bn', on', hAn', _, hcn⟩ := XNq.1.2 (by omega)
          rw [hAn] at hAn'
          cases hAn'
          have hbn : bn < w4.heap.size ∧ bn ≠ go := ⟨hbn4, by have h1 := XN.out.2 (by omega) _ hAn; have h2 : go + 1 ≤ bn := h1; omega⟩
          have cN := hcn i (by omega)
          have hcn2 : (intCells (natI fs))[i]? = some (.int .i64 (f : Int)) := by
            unfold intCells natI
            rw [List.getElem?_map, List.getElem?_map, List.getElem?_eq_getElem hlt, HF.out]
            rfl
          rw [hcn2] at cN
          obtain ⟨bl, ol, A1, c1, A2, c2, hA', hbl, _, p1, _⟩ := H.out.ln k0 hk0L
          have Bq := below_only B4.out GBq.out B4.out.size (by omega)
          have cM := (Bq.cell (p := ⟨bl, ol + k0 * 4 + 1, none⟩) hbl).trans p1
          have hbl4 : bl < w4.heap.size ∧ bl ≠ go := ⟨Nat.lt_of_lt_of_le hbl B4.out.size, by omega⟩
          have hnmf : nm f = L[k0].2.1 := by
            rw [HNM.out]
            unfold nmF
            rw [List.getD_eq_getElem?_getD, List.getElem?_eq_getElem HFI.out, hk0]
            show (lnAtD L (k0 : Int).toNat).2.1 = _
            rw [Int.toNat_natCast, lnAtD_of L k0 hk0L]
          rw [← hnmf] at cM
          have HRq := hide Rq
          have HK0 := hide hk0
          have SOq := hide (own_grown SO.out GQ.out (fun g e => by have := (SO.out.lt g e).1; intro e2; injection e2 with e2; omega))
          have hwz4 : w4.heap.size ≤ wr.heap.size := GBq.out.size
          have HKP : Hid (∀ w' : World, (∀ b, b < w4.heap.size → b ≠ go → w'.heap[b]? = wr.heap[b]?) → w'.cell? ⟨bn, on + i, none⟩ = some (.int .i64 (f : Int)) ∧ w'.cell? ⟨bl, ol + k0 * 4 + 1, none⟩ = some (.string (nm f))) := fun w' hw' =>
            ⟨(World.cell?_of_block (hw' bn hbn.1 hbn.2)).trans cN, (World.cell?_of_block (hw' bl hbl4.1 hbl4.2)).trans cM⟩
          have zs : IntKind.i64.wrap ((T.size : Int) - (S.size : Int)) = szA (OF f) := by rw [IntWalk.i64_in _ (by omega)]; omega
          clear hTs
          have KQd := hide KQ.out.drew
          have hk0d := KQd.out.cell 0
          have hk1d := KQd.out.cell 1
          simp at hk0d hk1d
          have hkn : (k0 : Int) < n := by have := HLN.out; omega
          have hkn0 : (0 : Int) ≤ (k0 : Int) := by omega
          have hfl : (f : Int) < ((funsF L).length : Int) := by have := HFI.out; omega
          have hf0 : (0 : Int) ≤ (f : Int) := by omega
          have hgoY : go < wr.drew.heap.size := KQ.out.lt
          have RX := hide (Rq.below (Below.refl wr.heap.size wr).drew)
          have SD : Hid (wr.drew.cell? ⟨go, 0, none⟩ = some (.string T) ∧ wr.drew.cell? ⟨bn, on + i, none⟩ = some (.int .i64 (f : Int)) ∧ wr.drew.cell? ⟨bl, ol + k0 * 4 + 1, none⟩ = some (.string (nm f))) := ⟨hk0d, HKP.out wr.drew (fun b _ _ => rfl)⟩
          subst hA'
          subst hAn
          clear p1 cN cM hcn hcn2 hk0 Rq XNq hnmf
          have SYM : Hid (∀ (w5 w7 : World) (A7 : Option Addr) (c7 : Nat), Below wr.drew.heap.size wr.drew w5 → Blk w7 go 42 #[.string T, .slice SA i sc] → w7.ownsRow w4.heap.size 79 3 (.slice A7 (i + 1) c7) (i + 1) (symCells (syF OF nm 0 (fs.take i)) ++ [.string (nm f), .int .i64 (S.size : Int), .int .i64 (szA (OF f))]) → w5.grownBy w7 (Value.slice SA i sc).ownBlock → ((Value.slice A7 (i + 1) c7).ownBlock = (Value.slice SA i sc).ownBlock ∨ (Value.slice A7 (i + 1) c7).ownBlock = some (w5.heap.size + 1)) → ∃ (A9 : Option Addr) (c9 : Nat), Blk (w7.setCell ⟨go, 1, none⟩ (.slice A7 (i + 1) c7)) go 42 #[.string T, .slice A9 (i + 1) c9] ∧ (w7.setCell ⟨go, 1, none⟩ (.slice A7 (i + 1) c7)).ownsRow w4.heap.size 79 3 (.slice A9 (i + 1) c9) (i + 1) (symCells (syF OF nm 0 (fs.take (i + 1)))) ∧ w4.grownBy (w7.setCell ⟨go, 1, none⟩ (.slice A7 (i + 1) c7)) (some go)) := by
            intro w5 w7 A7 c7 h5 hk ho hg hv
            refine ⟨A7, c7, ?_, ?_, ?_⟩
            · have := hk.set_ 1 (.slice A7 (i + 1) c7)
              simpa using this
            · have e1 : symCells (syF OF nm 0 (fs.take (i + 1))) = symCells (syF OF nm 0 (fs.take i)) ++ [.string (nm f), .int .i64 (S.size : Int), .int .i64 (szA (OF f))] := by
                rw [HTK.out, syF_snoc, HSZ2.out, Int.zero_add]
                simp [symCells, symC]
              rw [e1]
              exact own_setFar ho (fun b hb => by have h1 := (ho.lt b hb).1; show b ≠ go; omega) _
            · refine only_setCell (p := ⟨go, 1, none⟩) (grownBy_new (grownBy_below (only_drew GBq.out) h5) hg (fun b hb => .inl ?_)) (.inl rfl) _
              have h1 : w5.ownsRow w4.heap.size 79 3 (.slice SA i sc) i (symCells (syF OF nm 0 (fs.take i))) := own_belowZ (w := wr.drew) SOq.out h5
              exact (h1.lt b hb).1
          have REL : Hid (∀ w9 : World, (∃ (A9 : Option Addr) (c9 : Nat), Blk w9 go 42 #[.string T, .slice A9 (i + 1) c9] ∧ w9.ownsRow w4.heap.size 79 3 (.slice A9 (i + 1) c9) (i + 1) (symCells (syF OF nm 0 (fs.take (i + 1)))) ∧ w4.grownBy w9 (some go)) → ∃ (i' : Nat) (SA : Option Addr) (sc : Nat) (S : ByteArray), Value.int .i64 ((i : Int) + 1) = .int .i64 i' ∧ i' ≤ fs.length ∧ S = ⟨(cdF OF (fs.take i')).toArray⟩ ∧ Blk w9 go 42 #[.string S, .slice SA i' sc] ∧ w9.ownsRow w4.heap.size 79 3 (.slice SA i' sc) i' (symCells (syF OF nm 0 (fs.take i'))) ∧ w4.grownBy w9 (some go)) := by
            rintro w9 ⟨A9, c9, h1, h2, h3⟩
            refine ⟨i + 1, A9, c9, T, by go_num, by omega, ?_, h1, h2, h3⟩
            rw [HTK.out, cdF_snoc, HTA.out, HS.out]
            apply ByteArray.ext
            simp [ByteArray.data_append]
          go_wp2_with fail
          go_upto_region 14 with fail
          refine wp_region_noPanic ?_
          refine wp_region_held_drew (S := fun w' => w'.cell? ⟨go, 0, none⟩ = some (.string T) ∧ w'.cell? ⟨bn, on + i, none⟩ = some (.int .i64 (f : Int)) ∧ w'.cell? ⟨bl, ol + k0 * 4 + 1, none⟩ = some (.string (nm f))) (by kernel_rfl) (by first | exact SD.out | (dsimp only; exact SD.out)) (fun hHeld => ?_)
          refine wpAnyH_take (i := 0) (v := ?tvq0) rfl (by kernel_rfl) (by kernel_rfl) (by kernel_rfl) (fun _ _ _ h => h) (Or.inl ⟨by rfl, ?tyq0⟩) (by assumption) ?trq0
          case tyq0 => (intro w hSw; (try dsimp only at hSw); go_simp; first | done | with_reducible rfl)
          case trq0 =>
          try simp only [List.getElem_toArray, List.getElem_cons_succ, List.getElem_cons_zero, Act.put, List.setIfInBounds_toArray, List.set_cons_zero, List.set_cons_succ]
          refine wpAnyH_take (i := 2) (v := ?tvq2) rfl (by kernel_rfl) (by kernel_rfl) (by kernel_rfl) (fun _ _ _ h => h) (Or.inl ⟨by rfl, ?tyq2⟩) (by assumption) ?trq2
          case tyq2 => (intro w hSw; (try dsimp only at hSw); go_simp; first | done | with_reducible rfl)
          case trq2 =>
          try simp only [List.getElem_toArray, List.getElem_cons_succ, List.getElem_cons_zero, Act.put, List.setIfInBounds_toArray, List.set_cons_zero, List.set_cons_succ]
          refine wpAnyH_take (i := 3) (v := ?tvq3) rfl (by kernel_rfl) (by kernel_rfl) (by kernel_rfl) (fun _ _ _ h => h) (Or.inl ⟨by rfl, ?tyq3⟩) (by assumption) ?trq3
          case tyq3 => (intro w hSw; (try dsimp only at hSw); go_simp; first | done | with_reducible rfl)
          case trq3 =>
          try simp only [List.getElem_toArray, List.getElem_cons_succ, List.getElem_cons_zero, Act.put, List.setIfInBounds_toArray, List.set_cons_zero, List.set_cons_succ]
          refine wpAnyH_take (i := 5) (v := ?tvq5) rfl (by kernel_rfl) (by kernel_rfl) (by kernel_rfl) (fun _ _ _ h => h) (Or.inl ⟨by rfl, ?tyq5⟩) (by assumption) ?trq5
          case tyq5 => (intro w hSw; (try dsimp only at hSw); go_simp; first | done | with_reducible rfl)
          case trq5 =>
          try simp only [List.getElem_toArray, List.getElem_cons_succ, List.getElem_cons_zero, Act.put, List.setIfInBounds_toArray, List.set_cons_zero, List.set_cons_succ]
          refine wpAnyH_take (i := 6) (v := ?tvq6) rfl (by kernel_rfl) (by kernel_rfl) (by kernel_rfl) (fun _ _ _ h => h) (Or.inl ⟨by rfl, ?tyq6⟩) (by assumption) ?trq6
          case tyq6 => (intro w hSw; (try dsimp only at hSw); go_simp; first | done | with_reducible rfl)
          case trq6 =>
          try simp only [List.getElem_toArray, List.getElem_cons_succ, List.getElem_cons_zero, Act.put, List.setIfInBounds_toArray, List.set_cons_zero, List.set_cons_succ]
          refine wpAnyH_take (i := 7) (v := ?tvq7) rfl (by kernel_rfl) (by kernel_rfl) (by kernel_rfl) (fun _ _ _ h => h) (Or.inl ⟨by rfl, ?tyq7⟩) (by assumption) ?trq7
          case tyq7 => (intro w hSw; (try dsimp only at hSw); go_simp; first | done | with_reducible rfl)
          case trq7 =>
          try simp only [List.getElem_toArray, List.getElem_cons_succ, List.getElem_cons_zero, Act.put, List.setIfInBounds_toArray, List.set_cons_zero, List.set_cons_succ]
          refine wpAnyH_take (i := 8) (v := ?tvq8) rfl (by kernel_rfl) (by kernel_rfl) (by kernel_rfl) (fun _ _ _ h => h) (Or.inl ⟨by rfl, ?tyq8⟩) (by assumption) ?trq8
          case tyq8 => (intro w hSw; (try dsimp only at hSw); go_simp; first | done | with_reducible rfl)
          case trq8 =>
          try simp only [List.getElem_toArray, List.getElem_cons_succ, List.getElem_cons_zero, Act.put, List.setIfInBounds_toArray, List.set_cons_zero, List.set_cons_succ]
          refine wpAnyH_take (i := 14) (v := ?tvq14) rfl (by kernel_rfl) (by kernel_rfl) (by kernel_rfl) (fun _ _ _ h => h) (Or.inl ⟨by rfl, ?tyq14⟩) (by assumption) ?trq14
          case tyq14 => (intro w hSw; (try dsimp only at hSw); go_simp; first | done | with_reducible rfl)
          case trq14 =>
          try simp only [List.getElem_toArray, List.getElem_cons_succ, List.getElem_cons_zero, Act.put, List.setIfInBounds_toArray, List.set_cons_zero, List.set_cons_succ]
          refine wpAnyH_take (i := 15) (v := ?tvq15) rfl (by kernel_rfl) (by kernel_rfl) (by kernel_rfl) (fun _ _ _ h => h) (Or.inl ⟨by rfl, ?tyq15⟩) (by assumption) ?trq15
          case tyq15 => (intro w hSw; (try dsimp only at hSw); go_simp; first | done | with_reducible rfl)
          case trq15 =>
          try simp only [List.getElem_toArray, List.getElem_cons_succ, List.getElem_cons_zero, Act.put, List.setIfInBounds_toArray, List.set_cons_zero, List.set_cons_succ]
          refine wpAnyH_take (i := 16) (v := ?tvq16) rfl (by kernel_rfl) (by kernel_rfl) (by kernel_rfl) (fun _ _ _ h => h) (Or.inl ⟨by rfl, ?tyq16⟩) (by assumption) ?trq16
          case tyq16 => (intro w hSw; (try dsimp only at hSw); go_simp; first | done | with_reducible rfl)
          case trq16 =>
          try simp only [List.getElem_toArray, List.getElem_cons_succ, List.getElem_cons_zero, Act.put, List.setIfInBounds_toArray, List.set_cons_zero, List.set_cons_succ]
          refine wpAnyH_take (i := 17) (v := ?tvq17) rfl (by kernel_rfl) (by kernel_rfl) (by kernel_rfl) (fun _ _ _ h => h) (Or.inl ⟨by rfl, ?tyq17⟩) (by assumption) ?trq17
          case tyq17 => (intro w hSw; (try dsimp only at hSw); go_simp; first | done | with_reducible rfl)
          case trq17 =>
          try simp only [List.getElem_toArray, List.getElem_cons_succ, List.getElem_cons_zero, Act.put, List.setIfInBounds_toArray, List.set_cons_zero, List.set_cons_succ]
          refine wpAnyH_take (i := 18) (v := ?tvq18) rfl (by kernel_rfl) (by kernel_rfl) (by kernel_rfl) (fun _ _ _ h => h) (Or.inl ⟨by rfl, ?tyq18⟩) (by assumption) ?trq18
          case tyq18 => (intro w hSw; (try dsimp only at hSw); go_simp; first | done | with_reducible rfl)
          case trq18 =>
          try simp only [List.getElem_toArray, List.getElem_cons_succ, List.getElem_cons_zero, Act.put, List.setIfInBounds_toArray, List.set_cons_zero, List.set_cons_succ]
          refine wpAnyH_take (i := 19) (v := ?tvq19) rfl (by kernel_rfl) (by kernel_rfl) (by kernel_rfl) (fun _ _ _ h => h) (Or.inl ⟨by rfl, ?tyq19⟩) (by assumption) ?trq19
          case tyq19 => (intro w hSw; (try dsimp only at hSw); go_simp; first | done | with_reducible rfl)
          case trq19 =>
          try simp only [List.getElem_toArray, List.getElem_cons_succ, List.getElem_cons_zero, Act.put, List.setIfInBounds_toArray, List.set_cons_zero, List.set_cons_succ]
          refine wpAnyH_ready (rs := [1, 4]) (by kernel_rfl) (by simp) ?_
          refine AllReadyH.cons rfl (fun K hK => ?tcq1) (AllReadyH.cons rfl (fun K hK => ?tcq4) (AllReadyH.nil))
          case tcq1 =>
            go_simp
            refine hK.out _ _ SD.out (fun hHeld => ?thq1)
            case thq1 =>
            clear hK K
            try simp only [List.getElem_toArray, List.getElem_cons_succ, List.getElem_cons_zero, Act.put, List.setIfInBounds_toArray, List.set_cons_zero, List.set_cons_succ]
            refine wpAnyH_ready (rs := [4]) (by kernel_rfl) (by simp) ?_
            refine AllReadyH.cons rfl (fun K hK => ?tcqb4) (AllReadyH.nil)
            case tcqb4 =>
              go_simp
              go_at_call 14
              refine (i_funs _ n c L wr.drew (by omega) RX.out).mono ?_
              rintro e w5 ⟨⟨v, rfl, ho⟩, hb5⟩
              obtain ⟨F, cf, rfl, _, har⟩ := Arr.of_own ho
              obtain ⟨bF, oF, hF, _, cF⟩ := (InRow.of_arr har).int f HFI.out
              rw [HK0.out] at cF
              subst hF
              have B5 := hide hb5
              have K5 := hide (KQd.out.below hb5 hgoY)
              have S5 : Hid (w5.cell? ⟨go, 0, none⟩ = some (.string T) ∧ w5.cell? ⟨bn, on + i, none⟩ = some (.int .i64 (f : Int)) ∧ w5.cell? ⟨bl, ol + k0 * 4 + 1, none⟩ = some (.string (nm f))) := (by have h1 := K5.out.cell 0; simp at h1; exact ⟨h1, HKP.out w5 (fun b h2 _ => hb5.block b (Nat.lt_of_lt_of_le h2 hwz4))⟩)
              have S5a : Hid (∀ o, (w5.alloc o).cell? ⟨go, 0, none⟩ = some (.string T) ∧ (w5.alloc o).cell? ⟨bn, on + i, none⟩ = some (.int .i64 (f : Int)) ∧ (w5.alloc o).cell? ⟨bl, ol + k0 * 4 + 1, none⟩ = some (.string (nm f))) := (fun o => ⟨by have h1 := (K5.out.alloc o).cell 0; simpa using h1, HKP.out _ (fun b h2 _ => ((Below.heap_alloc w5 o b (Nat.lt_of_lt_of_le (Nat.lt_of_lt_of_le h2 hwz4) hb5.size))).trans (hb5.block b (Nat.lt_of_lt_of_le h2 hwz4)))⟩)
              have g1 := K5.out.cell 1
              have g1a := (K5.out.alloc (.cells #[.string (nm f), .int .i64 (S.size : Int), .int .i64 (szA (OF f))] 79)).cell 1
              simp at g1 g1a
              have hw45 : w4.heap.size ≤ w5.heap.size := Nat.le_trans hwz4 hb5.size
              have SO5 := hide (own_belowZ (w := wr.drew) SOq.out hb5)
              clear ho har hb5
              go_wp2_with fail
              refine hK.out _ _ S5.out (fun hHeld => ?thqb4)
              case thqb4 =>
              clear hK K
              try simp only [List.getElem_toArray, List.getElem_cons_succ, List.getElem_cons_zero, Act.put, List.setIfInBounds_toArray, List.set_cons_zero, List.set_cons_succ]
              refine wpAnyH_take (i := 9) (v := ?tvqbx9) rfl (by kernel_rfl) (by kernel_rfl) (by kernel_rfl) (fun _ _ _ h => h) (Or.inl ⟨by rfl, ?tyqbx9⟩) (by assumption) ?trqbx9
              case tyqbx9 => (intro w hSw; (try dsimp only at hSw); go_simp; first | done | with_reducible rfl)
              case trqbx9 =>
              try simp only [List.getElem_toArray, List.getElem_cons_succ, List.getElem_cons_zero, Act.put, List.setIfInBounds_toArray, List.set_cons_zero, List.set_cons_succ]
              refine wpAnyH_ready (rs := [10]) (by kernel_rfl) (by simp) ?_
              refine AllReadyH.cons rfl (fun K hK => ?tcqbx10) (AllReadyH.nil)
              case tcqbx10 =>
                go_simp
                refine hK.out _ _ S5.out (fun hHeld => ?thqbx10)
                case thqbx10 =>
                clear hK K
                try simp only [List.getElem_toArray, List.getElem_cons_succ, List.getElem_cons_zero, Act.put, List.setIfInBounds_toArray, List.set_cons_zero, List.set_cons_succ]
                refine wpAnyH_take (i := 11) (v := ?tvqbxx11) rfl (by kernel_rfl) (by kernel_rfl) (by kernel_rfl) (fun _ _ _ h => h) (Or.inl ⟨by rfl, ?tyqbxx11⟩) (by assumption) ?trqbxx11
                case tyqbxx11 => (intro w hSw; (try dsimp only at hSw); go_simp; first | done | with_reducible rfl)
                case trqbxx11 =>
                try simp only [List.getElem_toArray, List.getElem_cons_succ, List.getElem_cons_zero, Act.put, List.setIfInBounds_toArray, List.set_cons_zero, List.set_cons_succ]
                refine wpAnyH_take (i := 12) (v := ?tvqbxx12) rfl (by kernel_rfl) (by kernel_rfl) (by kernel_rfl) (fun _ _ _ h => h) (Or.inl ⟨by rfl, ?tyqbxx12⟩) (by assumption) ?trqbxx12
                case tyqbxx12 => (intro w hSw; (try dsimp only at hSw); go_simp; first | done | with_reducible rfl)
                case trqbxx12 =>
                try simp only [List.getElem_toArray, List.getElem_cons_succ, List.getElem_cons_zero, Act.put, List.setIfInBounds_toArray, List.set_cons_zero, List.set_cons_succ]
                refine wpAnyH_take (i := 13) (v := ?tvqbxx13) rfl (by kernel_rfl) (by kernel_rfl) (by kernel_rfl) (fun _ _ _ h => h) (Or.inl ⟨by rfl, ?tyqbxx13⟩) (by assumption) ?trqbxx13
                case tyqbxx13 => (intro w hSw; (try dsimp only at hSw); go_simp; first | done | with_reducible rfl)
                case trqbxx13 =>
                try simp only [List.getElem_toArray, List.getElem_cons_succ, List.getElem_cons_zero, Act.put, List.setIfInBounds_toArray, List.set_cons_zero, List.set_cons_succ]
                refine wpAnyH_take (i := 20) (v := ?tvqbxx20) rfl (by kernel_rfl) (by kernel_rfl) (by kernel_rfl) (fun _ _ _ h => h) (Or.inl ⟨by rfl, ?tyqbxx20⟩) (by assumption) ?trqbxx20
                case tyqbxx20 => (intro w hSw; (try dsimp only at hSw); go_simp; first | done | with_reducible rfl)
                case trqbxx20 =>
                try simp only [List.getElem_toArray, List.getElem_cons_succ, List.getElem_cons_zero, Act.put, List.setIfInBounds_toArray, List.set_cons_zero, List.set_cons_succ]
                refine wpAnyH_ready (rs := [21]) (by kernel_rfl) (by simp) ?_
                refine AllReadyH.cons rfl (fun K hK => ?tcqbxx21) (AllReadyH.nil)
                case tcqbxx21 =>
                  go_simp
                  refine hK.out _ _ (S5a.out _) (fun hHeld => ?thqbxx21)
                  case thqbxx21 =>
                  clear hK K
                  try simp only [List.getElem_toArray, List.getElem_cons_succ, List.getElem_cons_zero, Act.put, List.setIfInBounds_toArray, List.set_cons_zero, List.set_cons_succ]
                  refine wpAnyH_ready (rs := [22]) (by kernel_rfl) (by simp) ?_
                  refine AllReadyH.cons (o := { dst := some 84, op := Op.call { callee := Callee.builtin Builtin.append, args := #[Operand.tmp 63, Operand.tmp 83], argTypes := #[40, 40] }, type := 40, pos := "l09_assemble.go:87", after := #[{ on := 1, ground := Ground.data }, { on := 21, ground := Ground.data }, { on := 4, ground := Ground.chain }], guard := none }) rfl (fun K hK => ?tcqbxxx22) (AllReadyH.nil)
                  case tcqbxxx22 =>
                    refine step_appN w5 rfl (.tmp 63) (.tmp 83) _ rfl w4.heap.size 79 i0 _ 3 32 Try.underlying40 HI0.out hz0 hz1 hz2 rfl (by decide) (.slice SA i sc) i (symCells (syF OF nm 0 (fs.take i))) rfl SO5.out 1 [.string (nm f), .int .i64 (S.size : Int), .int .i64 (szA (OF f))] rfl rfl rfl (by intro u hu; simp at hu; rcases hu with rfl | rfl | rfl <;> rfl) (by omega) (by decide) hw45 ?_
                    intro v7 w7 hown7 hb7 hg7 hv7
                    obtain ⟨A7, c7, rfl, _⟩ := Arr.own2 hown7
                    have O7 := hide hown7
                    have G7 := hide hg7
                    have V7 := hide hv7
                    have K7 := hide (K5.out.grown hg7 (fun e => by have := (SO5.out.lt _ e.symm).1; omega))
                    have S7 : Hid (w7.cell? ⟨go, 0, none⟩ = some (.string T) ∧ w7.cell? ⟨bn, on + i, none⟩ = some (.int .i64 (f : Int)) ∧ w7.cell? ⟨bl, ol + k0 * 4 + 1, none⟩ = some (.string (nm f))) := (by have h1 := K7.out.cell 0; simp at h1; exact ⟨h1, HKP.out w7 (fun b h2 _ => (hg7.block b (Nat.lt_of_lt_of_le h2 hw45) (fun e => by have := (SO5.out.lt _ e.symm).1; omega)).trans (B5.out.block b (Nat.lt_of_lt_of_le h2 hwz4)))⟩)
                    have S8 : Hid (∀ u, (w7.setCell ⟨go, 1, none⟩ u).cell? ⟨go, 0, none⟩ = some (.string T) ∧ (w7.setCell ⟨go, 1, none⟩ u).cell? ⟨bn, on + i, none⟩ = some (.int .i64 (f : Int)) ∧ (w7.setCell ⟨go, 1, none⟩ u).cell? ⟨bl, ol + k0 * 4 + 1, none⟩ = some (.string (nm f))) := (fun u => ⟨by have h1 := (K7.out.set_ 1 u).cell 0; simpa using h1, HKP.out _ (fun b h2 h3 => (Below.heap_setCell w7 ⟨go, 1, none⟩ u b h3).trans ((hg7.block b (Nat.lt_of_lt_of_le h2 hw45) (fun e => by have := (SO5.out.lt _ e.symm).1; omega)).trans (B5.out.block b (Nat.lt_of_lt_of_le h2 hwz4))))⟩)
                    have g17 := K7.out.cell 1
                    have f17 := K7.out.frozen 1
                    simp at g17
                    clear hown7 hb7 hg7 hv7
                    refine hK.out _ _ S7.out (fun hHeld => ?thqbxxx22)
                    case thqbxxx22 =>
                    clear hK K
                    try simp only [List.getElem_toArray, List.getElem_cons_succ, List.getElem_cons_zero, Act.put, List.setIfInBounds_toArray, List.set_cons_zero, List.set_cons_succ]
                    refine wpAnyH_take (i := 23) (v := ?tvqbxxxx23) rfl (by kernel_rfl) (by kernel_rfl) (by kernel_rfl) (fun _ _ _ h => h) (Or.inl ⟨by rfl, ?tyqbxxxx23⟩) (by assumption) ?trqbxxxx23
                    case tyqbxxxx23 => (intro w hSw; (try dsimp only at hSw); go_simp; first | done | with_reducible rfl)
                    case trqbxxxx23 =>
                    try simp only [List.getElem_toArray, List.getElem_cons_succ, List.getElem_cons_zero, Act.put, List.setIfInBounds_toArray, List.set_cons_zero, List.set_cons_succ]
                    refine wpAnyH_ready (rs := [24]) (by kernel_rfl) (by simp) ?_
                    refine AllReadyH.cons rfl (fun K hK => ?tcqbxxxx24) (AllReadyH.nil)
                    case tcqbxxxx24 =>
                      go_simp
                      refine hK.out _ _ (S8.out _) (fun hHeld => ?thqbxxxx24)
                      case thqbxxxx24 =>
                      clear hK K
                      try simp only [List.getElem_toArray, List.getElem_cons_succ, List.getElem_cons_zero, Act.put, List.setIfInBounds_toArray, List.set_cons_zero, List.set_cons_succ]
                      refine wpAnyH_done (by kernel_rfl) ?_ _
                      refine NoPanic.normal ?_
                      go_wp2_with fail
                      go_roundw
                      case rel => exact REL.out _ (SYM.out w5 w7 A7 c7 B5.out K7.out O7.out G7.out V7.out)
                      case measure => simp [intOf]; omega
          case tcq4 =>
            go_simp
            go_at_call 14
            refine (i_funs _ n c L wr.drew (by omega) RX.out).mono ?_
            rintro e w5 ⟨⟨v, rfl, ho⟩, hb5⟩
            obtain ⟨F, cf, rfl, _, har⟩ := Arr.of_own ho
            obtain ⟨bF, oF, hF, _, cF⟩ := (InRow.of_arr har).int f HFI.out
            rw [HK0.out] at cF
            subst hF
            have B5 := hide hb5
            have K5 := hide (KQd.out.below hb5 hgoY)
            have S5 : Hid (w5.cell? ⟨go, 0, none⟩ = some (.string T) ∧ w5.cell? ⟨bn, on + i, none⟩ = some (.int .i64 (f : Int)) ∧ w5.cell? ⟨bl, ol + k0 * 4 + 1, none⟩ = some (.string (nm f))) := (by have h1 := K5.out.cell 0; simp at h1; exact ⟨h1, HKP.out w5 (fun b h2 _ => hb5.block b (Nat.lt_of_lt_of_le h2 hwz4))⟩)
            have S5a : Hid (∀ o, (w5.alloc o).cell? ⟨go, 0, none⟩ = some (.string T) ∧ (w5.alloc o).cell? ⟨bn, on + i, none⟩ = some (.int .i64 (f : Int)) ∧ (w5.alloc o).cell? ⟨bl, ol + k0 * 4 + 1, none⟩ = some (.string (nm f))) := (fun o => ⟨by have h1 := (K5.out.alloc o).cell 0; simpa using h1, HKP.out _ (fun b h2 _ => ((Below.heap_alloc w5 o b (Nat.lt_of_lt_of_le (Nat.lt_of_lt_of_le h2 hwz4) hb5.size))).trans (hb5.block b (Nat.lt_of_lt_of_le h2 hwz4)))⟩)
            have g1 := K5.out.cell 1
            have g1a := (K5.out.alloc (.cells #[.string (nm f), .int .i64 (S.size : Int), .int .i64 (szA (OF f))] 79)).cell 1
            simp at g1 g1a
            have hw45 : w4.heap.size ≤ w5.heap.size := Nat.le_trans hwz4 hb5.size
            have SO5 := hide (own_belowZ (w := wr.drew) SOq.out hb5)
            clear ho har hb5
            go_wp2_with fail
            refine hK.out _ _ S5.out (fun hHeld => ?thq4)
            case thq4 =>
            clear hK K
            try simp only [List.getElem_toArray, List.getElem_cons_succ, List.getElem_cons_zero, Act.put, List.setIfInBounds_toArray, List.set_cons_zero, List.set_cons_succ]
            refine wpAnyH_take (i := 9) (v := ?tvqe9) rfl (by kernel_rfl) (by kernel_rfl) (by kernel_rfl) (fun _ _ _ h => h) (Or.inl ⟨by rfl, ?tyqe9⟩) (by assumption) ?trqe9
            case tyqe9 => (intro w hSw; (try dsimp only at hSw); go_simp; first | done | with_reducible rfl)
            case trqe9 =>
            try simp only [List.getElem_toArray, List.getElem_cons_succ, List.getElem_cons_zero, Act.put, List.setIfInBounds_toArray, List.set_cons_zero, List.set_cons_succ]
            refine wpAnyH_ready (rs := [1, 10]) (by kernel_rfl) (by simp) ?_
            refine AllReadyH.cons rfl (fun K hK => ?tcqe1) (AllReadyH.cons rfl (fun K hK => ?tcqe10) (AllReadyH.nil))
            case tcqe1 =>
              go_simp
              refine hK.out _ _ S5.out (fun hHeld => ?thqe1)
              case thqe1 =>
              clear hK K
              try simp only [List.getElem_toArray, List.getElem_cons_succ, List.getElem_cons_zero, Act.put, List.setIfInBounds_toArray, List.set_cons_zero, List.set_cons_succ]
              refine wpAnyH_ready (rs := [10]) (by kernel_rfl) (by simp) ?_
              refine AllReadyH.cons rfl (fun K hK => ?tcqeb10) (AllReadyH.nil)
              case tcqeb10 =>
                go_simp
                refine hK.out _ _ S5.out (fun hHeld => ?thqeb10)
                case thqeb10 =>
                clear hK K
                try simp only [List.getElem_toArray, List.getElem_cons_succ, List.getElem_cons_zero, Act.put, List.setIfInBounds_toArray, List.set_cons_zero, List.set_cons_succ]
                refine wpAnyH_take (i := 11) (v := ?tvqebx11) rfl (by kernel_rfl) (by kernel_rfl) (by kernel_rfl) (fun _ _ _ h => h) (Or.inl ⟨by rfl, ?tyqebx11⟩) (by assumption) ?trqebx11
                case tyqebx11 => (intro w hSw; (try dsimp only at hSw); go_simp; first | done | with_reducible rfl)
                case trqebx11 =>
                try simp only [List.getElem_toArray, List.getElem_cons_succ, List.getElem_cons_zero, Act.put, List.setIfInBounds_toArray, List.set_cons_zero, List.set_cons_succ]
                refine wpAnyH_take (i := 12) (v := ?tvqebx12) rfl (by kernel_rfl) (by kernel_rfl) (by kernel_rfl) (fun _ _ _ h => h) (Or.inl ⟨by rfl, ?tyqebx12⟩) (by assumption) ?trqebx12
                case tyqebx12 => (intro w hSw; (try dsimp only at hSw); go_simp; first | done | with_reducible rfl)
                case trqebx12 =>
                try simp only [List.getElem_toArray, List.getElem_cons_succ, List.getElem_cons_zero, Act.put, List.setIfInBounds_toArray, List.set_cons_zero, List.set_cons_succ]
                refine wpAnyH_take (i := 13) (v := ?tvqebx13) rfl (by kernel_rfl) (by kernel_rfl) (by kernel_rfl) (fun _ _ _ h => h) (Or.inl ⟨by rfl, ?tyqebx13⟩) (by assumption) ?trqebx13
                case tyqebx13 => (intro w hSw; (try dsimp only at hSw); go_simp; first | done | with_reducible rfl)
                case trqebx13 =>
                try simp only [List.getElem_toArray, List.getElem_cons_succ, List.getElem_cons_zero, Act.put, List.setIfInBounds_toArray, List.set_cons_zero, List.set_cons_succ]
                refine wpAnyH_take (i := 20) (v := ?tvqebx20) rfl (by kernel_rfl) (by kernel_rfl) (by kernel_rfl) (fun _ _ _ h => h) (Or.inl ⟨by rfl, ?tyqebx20⟩) (by assumption) ?trqebx20
                case tyqebx20 => (intro w hSw; (try dsimp only at hSw); go_simp; first | done | with_reducible rfl)
                case trqebx20 =>
                try simp only [List.getElem_toArray, List.getElem_cons_succ, List.getElem_cons_zero, Act.put, List.setIfInBounds_toArray, List.set_cons_zero, List.set_cons_succ]
                refine wpAnyH_ready (rs := [21]) (by kernel_rfl) (by simp) ?_
                refine AllReadyH.cons rfl (fun K hK => ?tcqebx21) (AllReadyH.nil)
                case tcqebx21 =>
                  go_simp
                  refine hK.out _ _ (S5a.out _) (fun hHeld => ?thqebx21)
                  case thqebx21 =>
                  clear hK K
                  try simp only [List.getElem_toArray, List.getElem_cons_succ, List.getElem_cons_zero, Act.put, List.setIfInBounds_toArray, List.set_cons_zero, List.set_cons_succ]
                  refine wpAnyH_ready (rs := [22]) (by kernel_rfl) (by simp) ?_
                  refine AllReadyH.cons (o := { dst := some 84, op := Op.call { callee := Callee.builtin Builtin.append, args := #[Operand.tmp 63, Operand.tmp 83], argTypes := #[40, 40] }, type := 40, pos := "l09_assemble.go:87", after := #[{ on := 1, ground := Ground.data }, { on := 21, ground := Ground.data }, { on := 4, ground := Ground.chain }], guard := none }) rfl (fun K hK => ?tcqebxx22) (AllReadyH.nil)
                  case tcqebxx22 =>
                    refine step_appN w5 rfl (.tmp 63) (.tmp 83) _ rfl w4.heap.size 79 i0 _ 3 32 Try.underlying40 HI0.out hz0 hz1 hz2 rfl (by decide) (.slice SA i sc) i (symCells (syF OF nm 0 (fs.take i))) rfl SO5.out 1 [.string (nm f), .int .i64 (S.size : Int), .int .i64 (szA (OF f))] rfl rfl rfl (by intro u hu; simp at hu; rcases hu with rfl | rfl | rfl <;> rfl) (by omega) (by decide) hw45 ?_
                    intro v7 w7 hown7 hb7 hg7 hv7
                    obtain ⟨A7, c7, rfl, _⟩ := Arr.own2 hown7
                    have O7 := hide hown7
                    have G7 := hide hg7
                    have V7 := hide hv7
                    have K7 := hide (K5.out.grown hg7 (fun e => by have := (SO5.out.lt _ e.symm).1; omega))
                    have S7 : Hid (w7.cell? ⟨go, 0, none⟩ = some (.string T) ∧ w7.cell? ⟨bn, on + i, none⟩ = some (.int .i64 (f : Int)) ∧ w7.cell? ⟨bl, ol + k0 * 4 + 1, none⟩ = some (.string (nm f))) := (by have h1 := K7.out.cell 0; simp at h1; exact ⟨h1, HKP.out w7 (fun b h2 _ => (hg7.block b (Nat.lt_of_lt_of_le h2 hw45) (fun e => by have := (SO5.out.lt _ e.symm).1; omega)).trans (B5.out.block b (Nat.lt_of_lt_of_le h2 hwz4)))⟩)
                    have S8 : Hid (∀ u, (w7.setCell ⟨go, 1, none⟩ u).cell? ⟨go, 0, none⟩ = some (.string T) ∧ (w7.setCell ⟨go, 1, none⟩ u).cell? ⟨bn, on + i, none⟩ = some (.int .i64 (f : Int)) ∧ (w7.setCell ⟨go, 1, none⟩ u).cell? ⟨bl, ol + k0 * 4 + 1, none⟩ = some (.string (nm f))) := (fun u => ⟨by have h1 := (K7.out.set_ 1 u).cell 0; simpa using h1, HKP.out _ (fun b h2 h3 => (Below.heap_setCell w7 ⟨go, 1, none⟩ u b h3).trans ((hg7.block b (Nat.lt_of_lt_of_le h2 hw45) (fun e => by have := (SO5.out.lt _ e.symm).1; omega)).trans (B5.out.block b (Nat.lt_of_lt_of_le h2 hwz4))))⟩)
                    have g17 := K7.out.cell 1
                    have f17 := K7.out.frozen 1
                    simp at g17
                    clear hown7 hb7 hg7 hv7
                    refine hK.out _ _ S7.out (fun hHeld => ?thqebxx22)
                    case thqebxx22 =>
                    clear hK K
                    try simp only [List.getElem_toArray, List.getElem_cons_succ, List.getElem_cons_zero, Act.put, List.setIfInBounds_toArray, List.set_cons_zero, List.set_cons_succ]
                    refine wpAnyH_take (i := 23) (v := ?tvqebxxx23) rfl (by kernel_rfl) (by kernel_rfl) (by kernel_rfl) (fun _ _ _ h => h) (Or.inl ⟨by rfl, ?tyqebxxx23⟩) (by assumption) ?trqebxxx23
                    case tyqebxxx23 => (intro w hSw; (try dsimp only at hSw); go_simp; first | done | with_reducible rfl)
                    case trqebxxx23 =>
                    try simp only [List.getElem_toArray, List.getElem_cons_succ, List.getElem_cons_zero, Act.put, List.setIfInBounds_toArray, List.set_cons_zero, List.set_cons_succ]
                    refine wpAnyH_ready (rs := [24]) (by kernel_rfl) (by simp) ?_
                    refine AllReadyH.cons rfl (fun K hK => ?tcqebxxx24) (AllReadyH.nil)
                    case tcqebxxx24 =>
                      go_simp
                      refine hK.out _ _ (S8.out _) (fun hHeld => ?thqebxxx24)
                      case thqebxxx24 =>
                      clear hK K
                      try simp only [List.getElem_toArray, List.getElem_cons_succ, List.getElem_cons_zero, Act.put, List.setIfInBounds_toArray, List.set_cons_zero, List.set_cons_succ]
                      refine wpAnyH_done (by kernel_rfl) ?_ _
                      refine NoPanic.normal ?_
                      go_wp2_with fail
                      go_roundw
                      case rel => exact REL.out _ (SYM.out w5 w7 A7 c7 B5.out K7.out O7.out G7.out V7.out)
                      case measure => simp [intOf]; omega
            case tcqe10 =>
              go_simp
              refine hK.out _ _ S5.out (fun hHeld => ?thqe10)
              case thqe10 =>
              clear hK K
              try simp only [List.getElem_toArray, List.getElem_cons_succ, List.getElem_cons_zero, Act.put, List.setIfInBounds_toArray, List.set_cons_zero, List.set_cons_succ]
              refine wpAnyH_take (i := 11) (v := ?tvqek11) rfl (by kernel_rfl) (by kernel_rfl) (by kernel_rfl) (fun _ _ _ h => h) (Or.inl ⟨by rfl, ?tyqek11⟩) (by assumption) ?trqek11
              case tyqek11 => (intro w hSw; (try dsimp only at hSw); go_simp; first | done | with_reducible rfl)
              case trqek11 =>
              try simp only [List.getElem_toArray, List.getElem_cons_succ, List.getElem_cons_zero, Act.put, List.setIfInBounds_toArray, List.set_cons_zero, List.set_cons_succ]
              refine wpAnyH_take (i := 12) (v := ?tvqek12) rfl (by kernel_rfl) (by kernel_rfl) (by kernel_rfl) (fun _ _ _ h => h) (Or.inl ⟨by rfl, ?tyqek12⟩) (by assumption) ?trqek12
              case tyqek12 => (intro w hSw; (try dsimp only at hSw); go_simp; first | done | with_reducible rfl)
              case trqek12 =>
              try simp only [List.getElem_toArray, List.getElem_cons_succ, List.getElem_cons_zero, Act.put, List.setIfInBounds_toArray, List.set_cons_zero, List.set_cons_succ]
              refine wpAnyH_take (i := 13) (v := ?tvqek13) rfl (by kernel_rfl) (by kernel_rfl) (by kernel_rfl) (fun _ _ _ h => h) (Or.inl ⟨by rfl, ?tyqek13⟩) (by assumption) ?trqek13
              case tyqek13 => (intro w hSw; (try dsimp only at hSw); go_simp; first | done | with_reducible rfl)
              case trqek13 =>
              try simp only [List.getElem_toArray, List.getElem_cons_succ, List.getElem_cons_zero, Act.put, List.setIfInBounds_toArray, List.set_cons_zero, List.set_cons_succ]
              refine wpAnyH_take (i := 20) (v := ?tvqek20) rfl (by kernel_rfl) (by kernel_rfl) (by kernel_rfl) (fun _ _ _ h => h) (Or.inl ⟨by rfl, ?tyqek20⟩) (by assumption) ?trqek20
              case tyqek20 => (intro w hSw; (try dsimp only at hSw); go_simp; first | done | with_reducible rfl)
              case trqek20 =>
              try simp only [List.getElem_toArray, List.getElem_cons_succ, List.getElem_cons_zero, Act.put, List.setIfInBounds_toArray, List.set_cons_zero, List.set_cons_succ]
              refine wpAnyH_ready (rs := [1, 21]) (by kernel_rfl) (by simp) ?_
              refine AllReadyH.cons rfl (fun K hK => ?tcqek1) (AllReadyH.cons rfl (fun K hK => ?tcqek21) (AllReadyH.nil))
              case tcqek1 =>
                go_simp
                refine hK.out _ _ S5.out (fun hHeld => ?thqek1)
                case thqek1 =>
                clear hK K
                try simp only [List.getElem_toArray, List.getElem_cons_succ, List.getElem_cons_zero, Act.put, List.setIfInBounds_toArray, List.set_cons_zero, List.set_cons_succ]
                refine wpAnyH_ready (rs := [21]) (by kernel_rfl) (by simp) ?_
                refine AllReadyH.cons rfl (fun K hK => ?tcqekb21) (AllReadyH.nil)
                case tcqekb21 =>
                  go_simp
                  refine hK.out _ _ (S5a.out _) (fun hHeld => ?thqekb21)
                  case thqekb21 =>
                  clear hK K
                  try simp only [List.getElem_toArray, List.getElem_cons_succ, List.getElem_cons_zero, Act.put, List.setIfInBounds_toArray, List.set_cons_zero, List.set_cons_succ]
                  refine wpAnyH_ready (rs := [22]) (by kernel_rfl) (by simp) ?_
                  refine AllReadyH.cons (o := { dst := some 84, op := Op.call { callee := Callee.builtin Builtin.append, args := #[Operand.tmp 63, Operand.tmp 83], argTypes := #[40, 40] }, type := 40, pos := "l09_assemble.go:87", after := #[{ on := 1, ground := Ground.data }, { on := 21, ground := Ground.data }, { on := 4, ground := Ground.chain }], guard := none }) rfl (fun K hK => ?tcqekbx22) (AllReadyH.nil)
                  case tcqekbx22 =>
                    refine step_appN w5 rfl (.tmp 63) (.tmp 83) _ rfl w4.heap.size 79 i0 _ 3 32 Try.underlying40 HI0.out hz0 hz1 hz2 rfl (by decide) (.slice SA i sc) i (symCells (syF OF nm 0 (fs.take i))) rfl SO5.out 1 [.string (nm f), .int .i64 (S.size : Int), .int .i64 (szA (OF f))] rfl rfl rfl (by intro u hu; simp at hu; rcases hu with rfl | rfl | rfl <;> rfl) (by omega) (by decide) hw45 ?_
                    intro v7 w7 hown7 hb7 hg7 hv7
                    obtain ⟨A7, c7, rfl, _⟩ := Arr.own2 hown7
                    have O7 := hide hown7
                    have G7 := hide hg7
                    have V7 := hide hv7
                    have K7 := hide (K5.out.grown hg7 (fun e => by have := (SO5.out.lt _ e.symm).1; omega))
                    have S7 : Hid (w7.cell? ⟨go, 0, none⟩ = some (.string T) ∧ w7.cell? ⟨bn, on + i, none⟩ = some (.int .i64 (f : Int)) ∧ w7.cell? ⟨bl, ol + k0 * 4 + 1, none⟩ = some (.string (nm f))) := (by have h1 := K7.out.cell 0; simp at h1; exact ⟨h1, HKP.out w7 (fun b h2 _ => (hg7.block b (Nat.lt_of_lt_of_le h2 hw45) (fun e => by have := (SO5.out.lt _ e.symm).1; omega)).trans (B5.out.block b (Nat.lt_of_lt_of_le h2 hwz4)))⟩)
                    have S8 : Hid (∀ u, (w7.setCell ⟨go, 1, none⟩ u).cell? ⟨go, 0, none⟩ = some (.string T) ∧ (w7.setCell ⟨go, 1, none⟩ u).cell? ⟨bn, on + i, none⟩ = some (.int .i64 (f : Int)) ∧ (w7.setCell ⟨go, 1, none⟩ u).cell? ⟨bl, ol + k0 * 4 + 1, none⟩ = some (.string (nm f))) := (fun u => ⟨by have h1 := (K7.out.set_ 1 u).cell 0; simpa using h1, HKP.out _ (fun b h2 h3 => (Below.heap_setCell w7 ⟨go, 1, none⟩ u b h3).trans ((hg7.block b (Nat.lt_of_lt_of_le h2 hw45) (fun e => by have := (SO5.out.lt _ e.symm).1; omega)).trans (B5.out.block b (Nat.lt_of_lt_of_le h2 hwz4))))⟩)
                    have g17 := K7.out.cell 1
                    have f17 := K7.out.frozen 1
                    simp at g17
                    clear hown7 hb7 hg7 hv7
                    refine hK.out _ _ S7.out (fun hHeld => ?thqekbx22)
                    case thqekbx22 =>
                    clear hK K
                    try simp only [List.getElem_toArray, List.getElem_cons_succ, List.getElem_cons_zero, Act.put, List.setIfInBounds_toArray, List.set_cons_zero, List.set_cons_succ]
                    refine wpAnyH_take (i := 23) (v := ?tvqekbxx23) rfl (by kernel_rfl) (by kernel_rfl) (by kernel_rfl) (fun _ _ _ h => h) (Or.inl ⟨by rfl, ?tyqekbxx23⟩) (by assumption) ?trqekbxx23
                    case tyqekbxx23 => (intro w hSw; (try dsimp only at hSw); go_simp; first | done | with_reducible rfl)
                    case trqekbxx23 =>
                    try simp only [List.getElem_toArray, List.getElem_cons_succ, List.getElem_cons_zero, Act.put, List.setIfInBounds_toArray, List.set_cons_zero, List.set_cons_succ]
                    refine wpAnyH_ready (rs := [24]) (by kernel_rfl) (by simp) ?_
                    refine AllReadyH.cons rfl (fun K hK => ?tcqekbxx24) (AllReadyH.nil)
                    case tcqekbxx24 =>
                      go_simp
                      refine hK.out _ _ (S8.out _) (fun hHeld => ?thqekbxx24)
                      case thqekbxx24 =>
                      clear hK K
                      try simp only [List.getElem_toArray, List.getElem_cons_succ, List.getElem_cons_zero, Act.put, List.setIfInBounds_toArray, List.set_cons_zero, List.set_cons_succ]
                      refine wpAnyH_done (by kernel_rfl) ?_ _
                      refine NoPanic.normal ?_
                      go_wp2_with fail
                      go_roundw
                      case rel => exact REL.out _ (SYM.out w5 w7 A7 c7 B5.out K7.out O7.out G7.out V7.out)
                      case measure => simp [intOf]; omega
              case tcqek21 =>
                go_simp
                refine hK.out _ _ (S5a.out _) (fun hHeld => ?thqek21)
                case thqek21 =>
                clear hK K
                try simp only [List.getElem_toArray, List.getElem_cons_succ, List.getElem_cons_zero, Act.put, List.setIfInBounds_toArray, List.set_cons_zero, List.set_cons_succ]
                refine wpAnyH_ready (rs := [1]) (by kernel_rfl) (by simp) ?_
                refine AllReadyH.cons rfl (fun K hK => ?tcqekv1) (AllReadyH.nil)
                case tcqekv1 =>
                  go_simp
                  refine hK.out _ _ (S5a.out _) (fun hHeld => ?thqekv1)
                  case thqekv1 =>
                  clear hK K
                  try simp only [List.getElem_toArray, List.getElem_cons_succ, List.getElem_cons_zero, Act.put, List.setIfInBounds_toArray, List.set_cons_zero, List.set_cons_succ]
                  refine wpAnyH_ready (rs := [22]) (by kernel_rfl) (by simp) ?_
                  refine AllReadyH.cons (o := { dst := some 84, op := Op.call { callee := Callee.builtin Builtin.append, args := #[Operand.tmp 63, Operand.tmp 83], argTypes := #[40, 40] }, type := 40, pos := "l09_assemble.go:87", after := #[{ on := 1, ground := Ground.data }, { on := 21, ground := Ground.data }, { on := 4, ground := Ground.chain }], guard := none }) rfl (fun K hK => ?tcqekvx22) (AllReadyH.nil)
                  case tcqekvx22 =>
                    refine step_appN w5 rfl (.tmp 63) (.tmp 83) _ rfl w4.heap.size 79 i0 _ 3 32 Try.underlying40 HI0.out hz0 hz1 hz2 rfl (by decide) (.slice SA i sc) i (symCells (syF OF nm 0 (fs.take i))) rfl SO5.out 1 [.string (nm f), .int .i64 (S.size : Int), .int .i64 (szA (OF f))] rfl rfl rfl (by intro u hu; simp at hu; rcases hu with rfl | rfl | rfl <;> rfl) (by omega) (by decide) hw45 ?_
                    intro v7 w7 hown7 hb7 hg7 hv7
                    obtain ⟨A7, c7, rfl, _⟩ := Arr.own2 hown7
                    have O7 := hide hown7
                    have G7 := hide hg7
                    have V7 := hide hv7
                    have K7 := hide (K5.out.grown hg7 (fun e => by have := (SO5.out.lt _ e.symm).1; omega))
                    have S7 : Hid (w7.cell? ⟨go, 0, none⟩ = some (.string T) ∧ w7.cell? ⟨bn, on + i, none⟩ = some (.int .i64 (f : Int)) ∧ w7.cell? ⟨bl, ol + k0 * 4 + 1, none⟩ = some (.string (nm f))) := (by have h1 := K7.out.cell 0; simp at h1; exact ⟨h1, HKP.out w7 (fun b h2 _ => (hg7.block b (Nat.lt_of_lt_of_le h2 hw45) (fun e => by have := (SO5.out.lt _ e.symm).1; omega)).trans (B5.out.block b (Nat.lt_of_lt_of_le h2 hwz4)))⟩)
                    have S8 : Hid (∀ u, (w7.setCell ⟨go, 1, none⟩ u).cell? ⟨go, 0, none⟩ = some (.string T) ∧ (w7.setCell ⟨go, 1, none⟩ u).cell? ⟨bn, on + i, none⟩ = some (.int .i64 (f : Int)) ∧ (w7.setCell ⟨go, 1, none⟩ u).cell? ⟨bl, ol + k0 * 4 + 1, none⟩ = some (.string (nm f))) := (fun u => ⟨by have h1 := (K7.out.set_ 1 u).cell 0; simpa using h1, HKP.out _ (fun b h2 h3 => (Below.heap_setCell w7 ⟨go, 1, none⟩ u b h3).trans ((hg7.block b (Nat.lt_of_lt_of_le h2 hw45) (fun e => by have := (SO5.out.lt _ e.symm).1; omega)).trans (B5.out.block b (Nat.lt_of_lt_of_le h2 hwz4))))⟩)
                    have g17 := K7.out.cell 1
                    have f17 := K7.out.frozen 1
                    simp at g17
                    clear hown7 hb7 hg7 hv7
                    refine hK.out _ _ S7.out (fun hHeld => ?thqekvx22)
                    case thqekvx22 =>
                    clear hK K
                    try simp only [List.getElem_toArray, List.getElem_cons_succ, List.getElem_cons_zero, Act.put, List.setIfInBounds_toArray, List.set_cons_zero, List.set_cons_succ]
                    refine wpAnyH_take (i := 23) (v := ?tvqekvxx23) rfl (by kernel_rfl) (by kernel_rfl) (by kernel_rfl) (fun _ _ _ h => h) (Or.inl ⟨by rfl, ?tyqekvxx23⟩) (by assumption) ?trqekvxx23
                    case tyqekvxx23 => (intro w hSw; (try dsimp only at hSw); go_simp; first | done | with_reducible rfl)
                    case trqekvxx23 =>
                    try simp only [List.getElem_toArray, List.getElem_cons_succ, List.getElem_cons_zero, Act.put, List.setIfInBounds_toArray, List.set_cons_zero, List.set_cons_succ]
                    refine wpAnyH_ready (rs := [24]) (by kernel_rfl) (by simp) ?_
                    refine AllReadyH.cons rfl (fun K hK => ?tcqekvxx24) (AllReadyH.nil)
                    case tcqekvxx24 =>
                      go_simp
                      refine hK.out _ _ (S8.out _) (fun hHeld => ?thqekvxx24)
                      case thqekvxx24 =>
                      clear hK K
                      try simp only [List.getElem_toArray, List.getElem_cons_succ, List.getElem_cons_zero, Act.put, List.setIfInBounds_toArray, List.set_cons_zero, List.set_cons_succ]
                      refine wpAnyH_done (by kernel_rfl) ?_ _
                      refine NoPanic.normal ?_
                      go_wp2_with fail
                      go_roundw
                      case rel => exact REL.out _ (SYM.out w5 w7 A7 c7 B5.out K7.out O7.out G7.out V7.out)
                      case measure => simp [intOf]; omega
    · have z : decide ((i : Int) < (fs.length : Int)) = false := decide_eq_false (by omega)
      have z' : decide (i < fs.length) = false := decide_eq_false hlt
      have hil : i = fs.length := by omega
      have hfst : fs.take i = fs := List.take_of_length_le (by omega)
      have IR := hide (I4.out.grown GB.out (by simp; omega))
      have n0 := IR.out.cell 0
      have n1 := IR.out.cell 1
      have f0 := IR.out.frozen 0
      have f1 := IR.out.frozen 1
      simp at n0 n1
      have e9 : S = ⟨(cdF OF fs).toArray⟩ := by rw [HS.out, hfst]
      have FIN : Hid (∀ u v : Value, AsR ((wr.setCell ⟨w.heap.size + 1, 0, none⟩ u).setCell ⟨w.heap.size + 1, 1, none⟩ v) OF nm fs (.returned (.agg #[.string S, .slice SA i sc]))) := by
        intro u v
        have h1 := SO.out
        have h2 := own_setFar (own_setFar h1 (p := ⟨w.heap.size + 1, 0, none⟩) (fun b hb => by have := (h1.lt b hb).1; show b ≠ w.heap.size + 1; omega) u) (p := ⟨w.heap.size + 1, 1, none⟩) (fun b hb => by have := (h1.lt b hb).1; show b ≠ w.heap.size + 1; omega) v
        rw [hfst] at h2
        obtain ⟨A', c', e', h3, h4, har, _⟩ := Arr.own2 h2
        cases e'
        have hl : (syF OF nm 0 fs).length = i := by rw [syF_length]; exact hil.symm
        refine ⟨SA, sc, by rw [hl, e9], ?_, by show (syF OF nm 0 fs).length ≤ sc; omega, h4⟩
        show InRow _ SA (syF OF nm 0 fs).length 3 (symCells (syF OF nm 0 fs))
        rw [hl]
        exact InRow.of_arr har
      have BF := hide (below_only B4.out GB.out B4.out.size (by omega))
      clear hil hfst e9
      go_wp2_with fail
      have K2 := hide ((IR.out.set_ 0 (.string S)).set_ 1 (.slice SA i sc))
      have r0 := K2.out.cell 0
      have r1 := K2.out.cell 1
      simp at r0 r1
      exact bodyPost_ret (v := .agg #[.string S, .slice SA i sc]) (by simp [results, Try.results18, go_sem, r0, r1]) rfl ⟨FIN.out _ _, (BF.out.setCell (p := ⟨w.heap.size + 1, 0, none⟩) (Nat.le_succ _) _).setCell (p := ⟨w.heap.size + 1, 1, none⟩) (Nat.le_succ _) _⟩
end Go.Proofs.Ytcfjbaanahgpoaa
