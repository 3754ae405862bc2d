import Derived.Test.YtcfjbaanahgpoaaIp3
import Derived.Test.YtcfjbaanahgpoaaImgA
namespace Go.Proofs.Ytcfjbaanahgpoaa
open Go Go.RowKit
set_option maxRecDepth 100000
set_option linter.unusedVariables false
set_option linter.unusedSimpArgs false
/-! An image answers for its places. No program in sight. -/
theorem funs_sorted : ∀ (M : List Ln) (i : Nat), (funsFrom M i).Pairwise (· < ·) ∧ ∀ x ∈ funsFrom M i, (i : Int) ≤ x := by
  intro M
  induction M with
  | nil => intro i; exact ⟨List.Pairwise.nil, fun x hx => (by cases hx)⟩
  | cons y M ih =>
    intro i
    obtain ⟨h1, h2⟩ := ih (i + 1)
    rw [funsFrom]
    split
    · refine ⟨List.pairwise_cons.2 ⟨fun x hx => ?_, h1⟩, fun x hx => ?_⟩
      · have := h2 x hx; omega
      · rcases List.mem_cons.1 hx with rfl | hx
        · exact Int.le_refl _
        · have := h2 x hx; omega
    · exact ⟨h1, fun x hx => by have := h2 x hx; omega⟩
theorem sorted_inj {l : List Int} (h : l.Pairwise (· < ·)) {i j : Nat} (hi : i < l.length) (hj : j < l.length) (e : l[i] = l[j]) : i = j := by
  rw [List.pairwise_iff_getElem] at h
  rcases Nat.lt_trichotomy i j with h1 | h1 | h1
  · have := h i j hi hj h1; omega
  · exact h1
  · have := h j i hj hi h1; omega
/-- What is known of functions' names. -/
def NmOk (nm : Nat → ByteArray) (fs : List Nat) : Prop := (∀ f ∈ fs, nameOkF (nm f).data.toList = true) ∧ (fs.map nm).Nodup
theorem nm_ok {L : List Ln} (h : progS L = true) {fs : List Nat} (hn : fs.Nodup) (hl : ∀ f ∈ fs, f < (funsF L).length) : NmOk (nmF L) fs := by
  have h1 := (yes_out h).2.2.2.2.1
  have key : ∀ f ∈ fs, ∃ (hf : f < (funsF L).length) (k : Nat), (funsF L)[f] = (k : Int) ∧ k < L.length ∧ (lnAtD L k).1 = 0 ∧ nmF L f = (lnAtD L k).2.1 := by
    intro f hf
    have hlt := hl f hf
    obtain ⟨k, hk, hkl, hk0⟩ := funsF_mem L _ (List.getElem_mem hlt)
    refine ⟨hlt, k, hk, hkl, hk0, ?_⟩
    unfold nmF
    rw [List.getD_eq_getElem?_getD, List.getElem?_eq_getElem hlt, hk]
    rfl
  refine ⟨fun f hf => ?_, ?_⟩
  · obtain ⟨_, k, _, hkl, hk0, e⟩ := key f hf
    rw [e]
    exact (lineOk_partsQ (h1 k hkl).1).2.1 (.inl hk0)
  · rw [List.nodup_iff_pairwise_ne] at hn ⊢
    rw [List.pairwise_map]
    refine hn.imp_of_mem (fun {f g} hf hg hne e => ?_)
    obtain ⟨hf', k, hk, hkl, hk0, e1⟩ := key f hf
    obtain ⟨hg', m, hm, hml, hm0, e2⟩ := key g hg
    have e3 := (h1 k hkl).2 hk0
    have e4 := (h1 m hml).2 hm0
    rw [← e1, e, e2, e4] at e3
    exact hne (sorted_inj (funs_sorted L 0).1 hf' hg' (by show (funsF L)[f] = (funsF L)[g]; rw [hk, hm]; omega))
/-- Where a place is found. -/
theorem imG_place {OF : Nat → Ops} : ∀ (fs : List Nat) (a : Int), ∀ p ∈ (imG OF a fs).flatten, ∃ (l1 l2 : List Nat) (f k : Nat), ∃ hk : k < (OF f).length, fs = l1 ++ f :: l2 ∧ p = (a + sumS OF l1 + szO (OF f) k, (finO (OF f))[k]'(by rw [finO_length]; exact hk)) := by
  intro fs
  induction fs with
  | nil => intro a p hp; simp [imG] at hp
  | cons g fs ih =>
    intro a p hp
    rw [imG, List.flatten_cons] at hp
    rcases List.mem_append.1 hp with hp | hp
    · obtain ⟨k, hk, rfl⟩ := List.mem_iff_getElem.1 hp
      have hk' : k < (OF g).length := by rw [plsO_length] at hk; exact hk
      refine ⟨[], fs, g, k, hk', rfl, ?_⟩
      rw [finO_places _ _ _ hk']
      simp [sumS]
    · obtain ⟨l1, l2, f, k, hk, rfl, e⟩ := ih _ p hp
      refine ⟨g :: l1, l2, f, k, hk, rfl, ?_⟩
      rw [e]
      congr 1
      simp [sumS]
      omega
/-- Every instruction's place is there. -/
theorem imG_has {OF : Nat → Ops} (l2 : List Nat) (f k : Nat) (hk : k < (OF f).length) : ∀ (l1 : List Nat) (a : Int), a + sumS OF l1 + szO (OF f) k ∈ ((imG OF a (l1 ++ f :: l2)).flatten).map Prod.fst := by
  intro l1
  induction l1 with
  | nil =>
    intro a
    rw [List.nil_append, imG, List.flatten_cons, List.map_append]
    refine List.mem_append_left _ ?_
    have h1 : k < (plsO (OF f) a).length := by rw [plsO_length]; exact hk
    have h2 : ((plsO (OF f) a).map Prod.fst)[k]'(by rw [List.length_map]; exact h1) = a + szO (OF f) k := by
      rw [List.getElem_map, finO_places _ _ _ hk]
    have h3 := List.getElem_mem (l := (plsO (OF f) a).map Prod.fst) (n := k) (by rw [List.length_map]; exact h1)
    rw [h2] at h3
    simpa [sumS] using h3
  | cons g l1 ih =>
    intro a
    rw [List.cons_append, imG, List.flatten_cons, List.map_append]
    refine List.mem_append_right _ ?_
    have := ih (a + szA (OF g))
    have e : a + sumS OF (g :: l1) + szO (OF f) k = a + szA (OF g) + sumS OF l1 + szO (OF f) k := by simp [sumS]; omega
    rw [e]
    exact this
theorem szO_lt {O : Ops} (h : OpsOk O) : ∀ k : Nat, k < O.length → szO O k < szA O := by
  have key : ∀ m k : Nat, k < O.length → O.length - k ≤ m → szO O k < szA O := by
    intro m
    induction m with
    | zero => intro k h1 h2; omega
    | succ m ih =>
      intro k h1 h2
      have h3 := szO_succ O k h1
      obtain ⟨⟨g1, g2, _⟩, _⟩ := h.2 _ (List.getElem_mem h1)
      have h4 := opSizeF_pos (c := O[k].1) ⟨g1, g2⟩
      by_cases h5 : k + 1 < O.length
      · have := ih (k + 1) h5 (by omega); omega
      · have : k + 1 = O.length := by omega
        unfold szA
        rw [← this]
        omega
  exact fun k hk => key _ k hk (Nat.le_refl _)
/-- The symbol of an instruction is its function's. -/
theorem sym_at {OF : Nat → Ops} {nm : Nat → ByteArray} {f : Nat} {l2 : List Nat} {off : Int} : ∀ (l1 : List Nat) (a : Int) (k : Nat), 0 ≤ a → (∀ g ∈ l1 ++ f :: l2, OpsOk (OF g)) → a + 13000 * ((l1.length : Int) + 1) ≤ 1000000 → a + sumS OF l1 ≤ off → off < a + sumS OF l1 + szA (OF f) → symFrom off (syF OF nm a (l1 ++ f :: l2)) k = (k : Int) + l1.length := by
  intro l1
  induction l1 with
  | nil =>
    intro a k h0 hok hb h1 h2
    rw [List.nil_append, syF, symFrom]
    have hs := szA_bound (hok f (by simp))
    simp [sumS] at h1 h2
    rw [if_pos ⟨by simp [btw]; simp at hb; omega, by simp [btw]; omega, h1, h2⟩]
    simp
  | cons g l1 ih =>
    intro a k h0 hok hb h1 h2
    rw [List.cons_append, syF, symFrom]
    have hs := szA_bound (hok g (by simp))
    have hsum := sumS_bound (OF := OF) l1 (fun x hx => hok x (by simp [hx]))
    have e : sumS OF (g :: l1) = szA (OF g) + sumS OF l1 := by simp [sumS]
    rw [e] at h1 h2
    rw [if_neg (fun hh => by have := hh.2.2.2; simp only at this; omega)]
    rw [ih (a + szA (OF g)) (k + 1) (by omega) (fun x hx => hok x (by simp at hx ⊢; rcases hx with h | h | h <;> simp [h])) (by simp only [List.length_cons] at hb; omega) (by omega) (by omega)]
    simp only [List.length_cons]
    omega
/-- What the law asks of a place. -/
theorem place_law {OF : Nat → Ops} {nm : Nat → ByteArray} {fs : List Nat} (hok : ∀ f ∈ fs, OpsOk (OF f)) (hl : fs.length ≤ 6) : ∀ p ∈ (imG OF 0 fs).flatten,
    decOpF (cdF OF fs) p.1 = some (p.2.1, p.2.2) ∧ 0 ≤ p.1 ∧ p.1 ≤ 100000 ∧ -2147483648 ≤ p.2.2 ∧ p.2.2 ≤ 2147483647 ∧
    (p.2.1 = 10 ∨ p.2.1 = 11 → p.1 + (opW p.2.1 + 1) + p.2.2 ∈ ((imG OF 0 fs).flatten).map Prod.fst ∧ symF (syF OF nm 0 fs) (p.1 + (opW p.2.1 + 1) + p.2.2) = symF (syF OF nm 0 fs) p.1) := by
  intro p hp
  obtain ⟨l1, l2, f, k, hk, rfl, rfl⟩ := imG_place fs 0 p hp
  have hf := hok f (by simp)
  have hs := sumS_bound (OF := OF) l1 (fun x hx => hok x (by simp [hx]))
  have hl1 : l1.length ≤ 5 := by simp at hl; omega
  have hfk : k < (finO (OF f)).length := by rw [finO_length]; exact hk
  have hopk := finO_ok hf _ (List.getElem_mem hfk)
  have hz := szO_bound (OF f) k (by omega)
  have hfl := hf.1
  have hcd : cdF OF (l1 ++ f :: l2) = (cdF OF l1 ++ encAll ((finO (OF f)).take k)) ++ encOpF (finO (OF f))[k].1 (finO (OF f))[k].2 ++ (encAll ((finO (OF f)).drop (k + 1)) ++ cdF OF l2) := by
    have h1 := encAll_split (finO (OF f)) k hfk
    unfold cdF at *
    rw [List.flatMap_append, List.flatMap_cons, h1]
    simp [List.append_assoc]
  have hlen : ((cdF OF l1 ++ encAll ((finO (OF f)).take k)).length : Int) = 0 + sumS OF l1 + szO (OF f) k := by
    rw [List.length_append]
    have h1 := cdF_len (OF := OF) l1 (fun x hx => hok x (by simp [hx]))
    have h2 := enc_take_len hf k (by omega)
    omega
  refine ⟨?_, by show 0 ≤ 0 + sumS OF l1 + szO (OF f) k; omega, by show 0 + sumS OF l1 + szO (OF f) k ≤ 100000; omega, ?_, ?_, fun hj => ?_⟩
  · show decOpF _ (0 + sumS OF l1 + szO (OF f) k) = _
    rw [hcd, ← hlen]
    exact dec_enc _ _ _ _ hopk
  · show -2147483648 ≤ (finO (OF f))[k].2
    rw [finO_get (OF f) k hk]
    show -2147483648 ≤ argO (OF f) k (OF f)[k]
    obtain ⟨ha, hjj⟩ := hf.2 _ (List.getElem_mem hk)
    unfold argO
    split
    · rename_i hq
      have h1 := hjj hq
      have b1 := szO_bound (OF f) (OF f)[k].2.toNat (by omega)
      have b2 := szO_bound (OF f) (k + 1) (by omega)
      omega
    · rename_i hq
      unfold ArgOk at ha
      omega
  · show (finO (OF f))[k].2 ≤ 2147483647
    rw [finO_get (OF f) k hk]
    show argO (OF f) k (OF f)[k] ≤ 2147483647
    obtain ⟨ha, hjj⟩ := hf.2 _ (List.getElem_mem hk)
    unfold argO
    split
    · rename_i hq
      have h1 := hjj hq
      have b1 := szO_bound (OF f) (OF f)[k].2.toNat (by omega)
      have b2 := szO_bound (OF f) (k + 1) (by omega)
      omega
    · rename_i hq
      unfold ArgOk at ha
      omega
  · have e0 := finO_get (OF f) k hk
    have hj' : (OF f)[k].1 = 10 ∨ (OF f)[k].1 = 11 := by
      have : (finO (OF f))[k].1 = (OF f)[k].1 := by rw [e0]
      rw [← this]; exact hj
    obtain ⟨_, hjj⟩ := hf.2 _ (List.getElem_mem hk)
    obtain ⟨t0, t1⟩ := hjj hj'
    have hto : 0 + sumS OF l1 + szO (OF f) k + ((opW (finO (OF f))[k].1 : Int) + 1) + (finO (OF f))[k].2 = 0 + sumS OF l1 + szO (OF f) (OF f)[k].2.toNat := by
      rw [e0]
      show 0 + sumS OF l1 + szO (OF f) k + ((opW (OF f)[k].1 : Int) + 1) + argO (OF f) k (OF f)[k] = _
      unfold argO
      rw [if_pos hj', szO_succ (OF f) k hk]
      have hsz : opSizeF (OF f)[k].1 = (opW (OF f)[k].1 : Int) + 1 := by
        unfold opSizeF
        rw [if_pos (by omega)]
      omega
    have htl : (OF f)[k].2.toNat < (OF f).length := by omega
    show (0 + sumS OF l1 + szO (OF f) k + ((opW (finO (OF f))[k].1 : Int) + 1) + (finO (OF f))[k].2) ∈ _ ∧ symF _ (0 + sumS OF l1 + szO (OF f) k + ((opW (finO (OF f))[k].1 : Int) + 1) + (finO (OF f))[k].2) = symF _ (0 + sumS OF l1 + szO (OF f) k)
    rw [hto]
    have hlk := szO_lt hf k hk
    have hlt := szO_lt hf _ htl
    have hzt := szO_bound (OF f) (OF f)[k].2.toNat (by omega)
    refine ⟨imG_has l2 f _ htl l1 0, ?_⟩
    unfold symF
    rw [sym_at (OF := OF) (nm := nm) (f := f) (l2 := l2) l1 0 0 (Int.le_refl _) hok (by omega) (by omega) (by omega), sym_at (OF := OF) (nm := nm) (f := f) (l2 := l2) l1 0 0 (Int.le_refl _) hok (by omega) (by omega) (by omega)]
theorem imFs_count (split : Bool) : ∀ nf : Nat, (imFs split 0 nf).length + (imFs split 1 nf).length = nf := by
  intro nf
  induction nf with
  | zero => rfl
  | succ f ih =>
    rw [imFs_succ, imFs_succ, List.length_append, List.length_append]
    have h : (if inImF split f 0 then [f] else []).length + (if inImF split f 1 then [f] else []).length = 1 := by
      cases split
      · rfl
      · unfold inImF
        rcases (show f % 2 = 0 ∨ f % 2 = 1 by omega) with h | h <;> simp [h]
    omega
theorem imFs_nodup (split : Bool) (image nf : Nat) : (imFs split image nf).Nodup := by
  unfold imFs
  exact List.Pairwise.filter _ List.nodup_range
theorem syF_names (OF : Nat → Ops) (nm : Nat → ByteArray) : ∀ (fs : List Nat) (a : Int), (syF OF nm a fs).map Prod.fst = fs.map nm := by
  intro fs
  induction fs with
  | nil => intro a; rfl
  | cons f fs ih => intro a; simp [syF, ih]
theorem cd_extract (A B C : List UInt8) (q : Nat) (hq : q = A.length + B.length) : ((⟨(A ++ B ++ C).toArray⟩ : ByteArray).extract A.length q).data.toList = B := by
  subst hq
  simp [ByteArray.data_extract]
theorem img_from {OF : Nat → Ops} {nm : Nat → ByteArray} {fs : List Nat} (hok : ∀ f ∈ fs, OpsOk (OF f)) (hn : NmOk nm fs) : ∀ (l2 l1 : List Nat), fs = l1 ++ l2 → ∀ p : Nat, (p : Int) = sumS OF l1 → ImgP ⟨(cdF OF fs).toArray⟩ (syF OF nm 0 fs) (syF OF nm (sumS OF l1) l2) l1.length p := by
  intro l2
  induction l2 with
  | nil =>
    intro l1 hl p hp
    rw [List.append_nil] at hl
    subst hl
    have h1 := cdF_len (OF := OF) fs hok
    show p = (cdF OF fs).toArray.size
    rw [List.size_toArray]
    omega
  | cons f l2 ih =>
    intro l1 hl p hp
    have hf := hok f (by rw [hl]; simp)
    have hs := szA_bound hf
    have hl1 : ∀ x ∈ l1, OpsOk (OF x) := fun x hx => hok x (by rw [hl]; simp [hx])
    have hc1 := cdF_len (OF := OF) l1 hl1
    have hc2 := enc_len hf
    have hcd : cdF OF fs = cdF OF l1 ++ encAll (finO (OF f)) ++ cdF OF l2 := by rw [hl]; simp [cdF]
    have hq : p = (cdF OF l1).length := by omega
    rw [syF]
    refine ⟨hp.symm, hs.1, ?_, hn.1 f (by rw [hl]; simp), ?_, ?_, ?_⟩
    · show szA (OF f) ≤ (((cdF OF fs).toArray.size : Nat) : Int) - p
      rw [List.size_toArray, hcd]
      simp only [List.length_append]
      omega
    · rw [List.map_take, syF_names, hl, List.map_append, List.take_left' (by simp)]
      have h2 := hn.2
      rw [hl, List.map_append, List.nodup_append] at h2
      exact fun hm => h2.2.2 _ hm _ (by simp) rfl
    · show (disF ((⟨(cdF OF fs).toArray⟩ : ByteArray).extract p (p + (szA (OF f)).toNat)).data.toList 0).isSome = true
      rw [hcd, hq, cd_extract _ _ _ _ (by omega), dis_all _ (finO_ok hf)]
      rfl
    · have h3 := ih (l1 ++ [f]) (by rw [hl]; simp) (p + (szA (OF f)).toNat) (by rw [sumS_snoc]; omega)
      rw [sumS_snoc, List.length_append] at h3
      exact h3
theorem yes_in {p : Prop} (h : p) : yes p = true := by
  unfold yes
  simp [h]
/-- The image is in order. -/
theorem img_ok {OF : Nat → Ops} {nm : Nat → ByteArray} {fs : List Nat} (hok : ∀ f ∈ fs, OpsOk (OF f)) (hn : NmOk nm fs) (hl : fs.length ≤ 6) : imgOkF (⟨(cdF OF fs).toArray⟩, syF OF nm 0 fs) = true := by
  have h1 := cdF_len (OF := OF) fs hok
  have h2 := sumS_bound (OF := OF) fs hok
  refine yes_in ⟨img_from hok hn fs [] rfl 0 (by simp [sumS]), ?_⟩
  show (cdF OF fs).toArray.size ≤ 1000000
  rw [List.size_toArray]
  omega
/-- The symbols' names are short. -/
theorem sy_small {OF : Nat → Ops} {nm : Nat → ByteArray} {fs : List Nat} (hn : NmOk nm fs) : ∀ t ∈ syF OF nm 0 fs, t.1.size ≤ maxLen := by
  intro t ht
  have h1 : t.1 ∈ (syF OF nm 0 fs).map Prod.fst := List.mem_map_of_mem ht
  rw [syF_names] at h1
  obtain ⟨f, hf, e⟩ := List.mem_map.1 h1
  have h2 := hn.1 f hf
  unfold nameOkF btw at h2
  simp only [Bool.and_eq_true, decide_eq_true_eq] at h2
  have h3 : (nm f).data.toList.length = (nm f).size := rfl
  rw [← e]
  unfold maxLen
  omega
end Go.Proofs.Ytcfjbaanahgpoaa
