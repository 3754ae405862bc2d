import Derived.Test.YtcfjbaanahgpoaaCoEF
namespace Go.Proofs.Ytcfjbaanahgpoaa
open Go Go.RowKit Go.Maps
set_option maxRecDepth 100000
set_option linter.unusedVariables false
set_option linter.unusedSimpArgs false
/-- What is known when a whole function has been compiled. -/
def LinF (fu en : Nat) (L : List Ln) (n : Nat) (inl : Int) (I J : List It) : Prop :=
  (IOk n inl I → ∀ x ∈ J, x.code = 10 ∨ x.code = 11 → 0 ≤ x.arg ∧ x.arg < (J.length : Int)) ∧ I.length + 2 ≤ J.length ∧ ∀ l : Nat, fu < l → l < en → hasExprF (lnAtD L l).1 = true → StAt J (l : Int)
/-- What lines does, for scopes of one chain's length. -/
def LinC (Y : Nat) (w0 : World) (gc : Nat) (pr : Prm) (L : List Ln) (nc G : Nat) (lin : Sp → Sg → Sg × List Int) : Prop :=
  ∀ (w : World) (gs : Nat) (I : List It) (ib : List Nat) (s : Scd) (fu en : Nat), s.nc = nc → s.fu = fu → s.en = en → fu < pr.n → (lnAtD L fu).1 = 0 → endOfF L fu = en → gs ∈ pr.tb → CSt w w0.heap.size gc pr I ib → ScJ w w0.heap.size gc ib gs s [] [] (IsJ I) → Below w0.heap.size w0 w → w0.heap.size ≤ gs → 1 ≤ I.length → I.length + (en - fu) * G ≤ 2800 → -(200 + 8 * (I.length : Int)) ≤ s.ba ∧ s.ba ≤ 200 + 8 * (I.length : Int) → s.fi ≤ 8 * (nc : Int) →
    Calls Try.prog 81 #[.pointer (some ⟨gc, 0, none⟩), .pointer (some ⟨gs, 0, none⟩)] w fun e w' => e = .returned (.tuple #[]) ∧ ∃ (J : List It) (ib' jb' : List Nat) (Jm : List Int) (vj : Value), Gro pr.n pr.inl Y I J ((en - fu) * G) ∧ I.length + 1 ≤ J.length ∧ CSt w' w0.heap.size gc pr J ib' ∧ ScJ w' w0.heap.size gc ib' gs { s with vj := vj } jb' Jm (IsJ J) ∧ Ev gc (gs :: ib) w (gs :: (jb' ++ ib')) w' ∧ (nc = 0 → LinF fu en L pr.n pr.inl I J) ∧ Vw w' gc J = (lin s.sp (Vw w gc I)).1 ∧ Jm = (lin s.sp (Vw w gc I)).2
section
variable {w w' w1 w2 : World} {B gc gs m : Nat} {N N' : Nat → Prop} {ib ib' ib1 ib2 jb jb' : List Nat} {s : Scd} {J : List Int} {pr : Prm} {I : List It} {p : Addr}
theorem CSt.far (h : CSt w B gc pr I ib) (h1 : p.block ≠ gc) (h2 : p.block ∉ ib) (h3 : p.block ∈ pr.tb) (u : Value) : CSt (w.setCell p u) B gc pr I ib := by
  refine h.same (fun b hb => ?_) (by simp [World.setCell]) (fun b hb hn => Below.heap_setCell w p u b (fun e => hn (e ▸ h3)))
  exact Below.heap_setCell w p u b (fun e => by
    rcases hb with hb | hb
    · exact h1 (e ▸ hb)
    · exact h2 (e ▸ hb))
theorem Ev.set (h : Ev gc ib w ib1 w1) (hp : w.heap.size ≤ p.block) (u : Value) : Ev gc ib w ib1 (w1.setCell p u) :=
  ⟨h.os, h.tape, h.output, by have := h.size; simpa [World.setCell] using this, fun b hb h1 h2 => (Below.heap_setCell w1 p u b (by omega)).trans (h.block b hb h1 h2), h.row⟩
theorem Ev.inner {g : Nat} (h : Ev gc ib w ib1 w1) (k : Ev gc (g :: ib1) w1 (g :: (jb' ++ ib2)) w2) (hg : w.heap.size ≤ g) : Ev gc ib w ib2 w2 :=
  ⟨k.os.trans h.os, k.tape.trans h.tape, k.output.trans h.output, Nat.le_trans h.size k.size, fun b hb h1 h2 => (k.block b (Nat.lt_of_lt_of_le hb h.size) h1 (fun e => by
    rcases List.mem_cons.1 e with e | e
    · omega
    · exact h.ne hb h2 e)).trans (h.block b hb h1 h2), fun b hb => by
    rcases k.row b (List.mem_cons_of_mem _ (List.mem_append_right _ hb)) with h1 | h1
    · rcases List.mem_cons.1 h1 with h1 | h1
      · exact .inr (by omega)
      · exact h.row b h1
    · exact .inr (Nat.le_trans h.size h1)⟩
theorem CSt.most (h : CSt w B gc pr I ib) (d : Int) (hd : 0 ≤ d ∧ d ≤ 100) : CSt (w.setCell ⟨gc, 7, none⟩ (.int .i64 d)) B gc pr I ib ∧ Ev gc ib w ib (w.setCell ⟨gc, 7, none⟩ (.int .i64 d)) := by
  obtain ⟨h1, h2, h2'', m, d0, Ai, ci, An, cn, h0, h3, h4, h5, h6, h7⟩ := h
  have h2' : PrC (w.setCell ⟨gc, 7, none⟩ (.int .i64 d)) gc pr I ib := ⟨h2''.1, fun b hb => (by have := h2''.2.1 b hb; simpa [World.setCell] using this), h2''.2.2.ev (Ev.of_cell (only_setCell (p := ⟨gc, 7, none⟩) (World.grownBy.refl w (some gc)) (Or.inl rfl) _) _)⟩
  refine ⟨⟨h1, h2, h2', d, d0, Ai, ci, An, cn, ⟨hd.1, hd.2, h0.2.2⟩, ?_, own_setFar h4 (fun b hb e => h2 (by rw [← h7, ← (show b = gc from e)]; exact mem_rws.2 (.inl hb))) _, own_setFar h5 (fun b hb e => h2 (by rw [← h7, ← (show b = gc from e)]; exact mem_rws.2 (.inr hb))) _, h6, h7⟩, Ev.of_cell (only_setCell (p := ⟨gc, 7, none⟩) (World.grownBy.refl w (some gc)) (Or.inl rfl) _) _⟩
  have := h3.set_ 7 (.int .i64 d)
  simpa using this
theorem CSt.depth (h : CSt w B gc pr I ib) (d : Int) (hd : -(200 + 8 * (I.length : Int)) ≤ d ∧ d ≤ 200 + 8 * (I.length : Int)) : CSt (w.setCell ⟨gc, 9, none⟩ (.int .i64 d)) B gc pr I ib ∧ Ev gc ib w ib (w.setCell ⟨gc, 9, none⟩ (.int .i64 d)) := by
  obtain ⟨h1, h2, h2'', m, d0, Ai, ci, An, cn, h0, h3, h4, h5, h6, h7⟩ := h
  have h2' : PrC (w.setCell ⟨gc, 9, none⟩ (.int .i64 d)) gc pr I ib := ⟨h2''.1, fun b hb => (by have := h2''.2.1 b hb; simpa [World.setCell] using this), h2''.2.2.ev (Ev.of_cell (only_setCell (p := ⟨gc, 9, none⟩) (World.grownBy.refl w (some gc)) (Or.inl rfl) _) _)⟩
  refine ⟨⟨h1, h2, h2', m, d, Ai, ci, An, cn, ⟨h0.1, h0.2.1, hd⟩, ?_, own_setFar h4 (fun b hb e => h2 (by rw [← h7, ← (show b = gc from e)]; exact mem_rws.2 (.inl hb))) _, own_setFar h5 (fun b hb e => h2 (by rw [← h7, ← (show b = gc from e)]; exact mem_rws.2 (.inr hb))) _, h6, h7⟩, Ev.of_cell (only_setCell (p := ⟨gc, 9, none⟩) (World.grownBy.refl w (some gc)) (Or.inl rfl) _) _⟩
  have := h3.set_ 9 (.int .i64 d)
  simpa using this
theorem CSt.most_vw (h : CSt w B gc pr I ib) (d : Int) : Vw (w.setCell ⟨gc, 7, none⟩ (.int .i64 d)) gc I = { Vw w gc I with m := d } := by
  obtain ⟨_, _, _, m, d0, Ai, ci, An, cn, _, h3, _⟩ := h
  have h7 := h3.set_ 7 (.int .i64 d)
  simp at h7
  rw [Vw_of h7, Vw_of h3]
theorem CSt.depth_vw (h : CSt w B gc pr I ib) (d : Int) : Vw (w.setCell ⟨gc, 9, none⟩ (.int .i64 d)) gc I = { Vw w gc I with d := d } := by
  obtain ⟨_, _, _, m, d0, Ai, ci, An, cn, _, h3, _⟩ := h
  have h7 := h3.set_ 9 (.int .i64 d)
  simp at h7
  rw [Vw_of h7, Vw_of h3]
theorem ScJ.fi_ (h : ScJ w B gc ib gs s jb J N) (v : Int) (hv : 0 ≤ v ∧ v ≤ 64) : ScJ (w.setCell ⟨gs, 4, none⟩ (.int .i64 v)) B gc ib gs { s with fi := v } jb J N := by
  have hgj : gs ∉ jb := fun e => h.ni (List.mem_append_left _ e)
  refine ⟨?_, h.ne, h.ni, ⟨h.l1.1, h.l1.2.1, h.l1.2.2.1, hv.1, hv.2, h.l1.2.2.2.2.2⟩, h.l2, h.rl.far (p := ⟨gs, 4, none⟩) List.mem_cons_self _, h.rc.far (p := ⟨gs, 4, none⟩) List.mem_cons_self _, h.sl, own_setFar h.ow (fun b hb e => hgj (by rw [← h.ob, ← (show b = gs from e)]; exact Option.mem_toList.2 hb)) _, h.ob, h.jd, h.jn⟩
  have := h.k.set_ 4 (.int .i64 v)
  simpa using this
theorem ScJ.ba_ (h : ScJ w B gc ib gs s jb J N) (v : Int) : ScJ (w.setCell ⟨gs, 6, none⟩ (.int .i64 v)) B gc ib gs { s with ba := v } jb J N := by
  have hgj : gs ∉ jb := fun e => h.ni (List.mem_append_left _ e)
  refine ⟨?_, h.ne, h.ni, h.l1, h.l2, h.rl.far (p := ⟨gs, 6, none⟩) List.mem_cons_self _, h.rc.far (p := ⟨gs, 6, none⟩) List.mem_cons_self _, h.sl, own_setFar h.ow (fun b hb e => hgj (by rw [← h.ob, ← (show b = gs from e)]; exact Option.mem_toList.2 hb)) _, h.ob, h.jd, h.jn⟩
  have := h.k.set_ 6 (.int .i64 v)
  simpa using this
theorem ScJ.below (h : ScJ w B gc ib gs s jb J N) (k : Below w.heap.size w w') : ScJ w' B gc ib gs s jb J N := h.ev (Ev.of_below k gc ib) (fun _ h => h)
theorem intCells_one (l : List Int) : ∀ u ∈ intCells l, u.oneCell' = true := by
  intro u hu
  obtain ⟨a, _, rfl⟩ := List.mem_map.1 hu
  rfl
theorem own_take {base e size n m : Nat} {A : Option Addr} {c : Nat} {xs : List Value} (h : w.ownsRow base e size (.slice A n c) n xs) (hn : 0 < n) (hm : m ≤ n) : w.ownsRow base e size (.slice A m c) m (xs.take (m * size)) := by
  have hmn : m * size ≤ n * size := Nat.mul_le_mul_right _ hm
  refine ⟨by rw [List.length_take, h.1]; omega, ?_⟩
  rcases h.2 with ⟨e0, _⟩ | ⟨g, cap, cur, e1, hb, hh, hnc, hc, hcs, htake⟩
  · cases e0; omega
  · cases e1
    refine .inr ⟨g, c, cur, rfl, hb, hh, by omega, hc, hcs, ?_⟩
    rw [← htake, List.take_take, Nat.min_eq_left hmn]
end
theorem le_drew (w : World) : w.heap.size ≤ w.drew.heap.size := Nat.le_refl _
theorem drew_size (w : World) : w.drew.heap.size = w.heap.size := rfl
theorem inRow_blk1 {w : World} {b : Nat} {t : TypeId} {x : Value} (h : Blk w b t #[x]) : InRow w (some ⟨b, 0, none⟩) 1 1 [x] :=
  ⟨rfl, fun _ => ⟨b, 0, rfl, h.lt, fun j hj => by rw [Nat.zero_add, h.cell j]; simp⟩⟩
theorem inRow_grown {w w' : World} {A : Option Addr} {n size : Nat} {xs : List Value} {row : Option Nat} (h : InRow w A n size xs) (hg : w.grownBy w' row) (hne : 0 < n → ∀ b, A = some ⟨b, 0, none⟩ → row ≠ some b) (h0 : 0 < n → ∃ b, A = some ⟨b, 0, none⟩) : InRow w' A n size xs :=
  ⟨h.1, fun hn => by
    obtain ⟨b, o, e, hb, hc⟩ := h.2 hn
    obtain ⟨b', e'⟩ := h0 hn
    have hbb : b' = b := by rw [e] at e'; injection e' with e'; injection e' with e' _; exact e'.symm
    subst hbb
    have hk := hg.block b' hb (fun e2 => hne hn b' e' e2.symm)
    exact ⟨b', o, e, Nat.lt_of_lt_of_le hb hg.size, fun j hj => (World.cell?_of_block hk).trans (hc j hj)⟩⟩
theorem Gro.comp {n : Nat} {inl : Int} {Y1 Y2 Y3 a b c : Nat} {I J K : List It} (h : Gro n inl Y1 I J a) (g : Gro n inl Y2 J K b) (hi : K.length ≤ Y3 + c) : Gro n inl Y3 I K c := by
  refine ⟨Nat.le_trans h.lo g.lo, .inr hi, fun j x hx => ?_, fun hx => g.ok (h.ok hx)⟩
  obtain ⟨y, hy, k1⟩ := h.kp j x hx
  obtain ⟨z, hz, k2⟩ := g.kp j y hy
  exact ⟨z, hz, k1.trans k2⟩
theorem locFold_ge (M : List Ln) : ∀ acc, acc.length ≤ (locFold M acc).length := by
  induction M with
  | nil => intro acc; exact Nat.le_refl _
  | cons x M ih =>
    intro acc
    have h1 := ih (locStep acc x)
    have h2 : acc.length ≤ (locStep acc x).length := by unfold locStep; split <;> simp
    exact Nat.le_trans h2 h1
theorem locF_ge {L : List Ln} {k e : Nat} (h : endOfF L k = e) (h0 : (lnAtD L k).1 = 0) : (lnAtD L k).2.2.1.length ≤ (locF L (k : Int)).length := by
  unfold locF
  rw [Int.toNat_natCast, if_pos ⟨by omega, h0⟩]
  exact locFold_ge _ _
set_option maxHeartbeats 8000000 in
theorem i_replace (Y Y' : Nat) (w0 : World) (gc gs G : Nat) (pr : Prm) (s : Scd) (line : Int) (L : List Ln) (hln : 0 ≤ line ∧ line < (pr.n : Int)) (hinl : pr.inl ≤ 3) (hpn : pr.n ≤ 60) (hR : InLines w0 pr.A pr.n L) (hp : progS L = true) (hins : pr.ins + 1 ≤ 100) (hY1 : 240 + 9 * G ≤ Y) (hY2 : Y' + 9 * G ≤ Y) (hY3 : Y ≤ 2800) (hfi : s.fi ≤ 8 * (s.nc : Int)) (lin : List Int → Sp → Sg → Sg × List Int) (hlin : ∀ (T : List Nat) (k : Nat), LinC Y' w0 gc { pr with ins := pr.ins + 1, ns := pr.ns ++ [(k : Int)], tb := T } L (s.nc + 1) G (lin (pr.ns ++ [(k : Int)]))) : RepC Y w0 gc gs pr s line L 1 (fun k begin g => replaceF lin (pr.cp L) pr.ns s.sp k begin g) := by
  intro w I ib k begin hlt hkn h0 h9 hc hs hb hI hbg
  obtain ⟨i1, hi1, hy0, hy1, hy2⟩ := info_parts Try.infoIntC
  have HI1 := hide hi1
  clear hi1
  have hlen := hR.len
  have hkl : k < L.length := by omega
  obtain ⟨en, hen, hke, hel, hloc, _⟩ := prog_fnk hp k hkl h0
  obtain ⟨qFi, hFI⟩ : ∃ x : Int, x = fiF s.sp := ⟨_, rfl⟩
  obtain ⟨qM, hQM⟩ : ∃ x : Sg, x = { Vw w gc I with m := max (Vw w gc I).m (qFi + ((locF L (k : Int)).length : Nat)) } := ⟨_, rfl⟩
  obtain ⟨qD, hQD⟩ : ∃ x : Sg, x = wordsDn pr.framed qFi L[k].2.2.1.length qM := ⟨_, rfl⟩
  obtain ⟨qU, hQU⟩ : ∃ x : Sg, x = wordsUp pr.framed qFi ((locF L (k : Int)).length - L[k].2.2.1.length) L[k].2.2.1.length qD := ⟨_, rfl⟩
  obtain ⟨q4, hQ4⟩ : ∃ x : Sg, x = spcF begin qU := ⟨_, rfl⟩
  obtain ⟨qSn, hQS⟩ : ∃ x : Sp, x = ⟨(k : Int), endOfF L (k : Int), ((L[k].2.2.1.length : Nat) : Int), qFi, q4.d, locF L (k : Int), (locF L (k : Int)).length, s.nc + 1⟩ := ⟨_, rfl⟩
  obtain ⟨qP, hQP⟩ : ∃ x : Sg, x = (lin (pr.ns ++ [(k : Int)]) qSn q4).2.foldl (fun g j => patchF g j.toNat) (lin (pr.ns ++ [(k : Int)]) qSn q4).1 := ⟨_, rfl⟩
  obtain ⟨qRf, hRF⟩ : ∃ x : Sg, x = replaceF lin (pr.cp L) pr.ns s.sp k begin (Vw w gc I) := ⟨_, rfl⟩
  have hRF2 : qRf = { qP with d := wrap64 (q4.d + 1) } := by
    rw [hRF, hQP, hQS, hQ4, hQU, hQD, hQM, hFI, ← lnAtD_of L k hkl]
    rfl
  show Calls _ _ _ _ (fun e w' => Put Y w w0.heap.size gc pr I ib 1 begin line s.nc (replaceF lin (pr.cp L) pr.ns s.sp k begin (Vw w gc I)) e w')
  rw [← hRF]
  have HRF := hide hRF2
  have HQM := hide hQM
  have HQD := hide hQD
  have HQU := hide hQU
  have HQ4 := hide hQ4
  have HQS := hide hQS
  have HQP := hide hQP
  have HFI0 : Hid (s.nc = 0 → qFi = s.fi + (s.nl : Int) - s.ar) := fun h => by rw [hFI]; unfold fiF; rw [if_pos (show s.sp.nc = 0 from h)]; rfl
  have HFI1 : Hid (¬ s.nc = 0 → qFi = s.fi + (s.nl : Int)) := fun h => by rw [hFI]; unfold fiF; rw [if_neg (show ¬ s.sp.nc = 0 from h)]; rfl
  clear hRF hRF2 hQM hQD hQU hQ4 hQS hQP hFI
  have hT : pr.n + lnTot L ≤ 100000 := by have h1 := lnTot_leQ L (fun x hx => (lineOk_szQ ((prog_lines hp).2 x hx)).2); omega
  have hen9 : en ≤ k + 9 := by omega
  have HEN := hide hen
  have HK0 := hide h0
  have HC := hide hc
  have HS := hide hs
  have HB := hide hb
  have HBG := hide hbg
  have HLIN := hide hlin
  have HLN := hide hln
  have HLT := hide hlt
  have RW0 := hR.below hb
  obtain ⟨b, o, A1, c1, A2, c2, hA', _, _, _, p2, _, _⟩ := RW0.ln k hkl
  have hna : L[k].2.2.1.length ≤ (locF L (k : Int)).length := by have h1 := locF_ge hen h0; rw [lnAtD_of L k hkl] at h1; exact h1
  have RX := hide RW0
  have hgl := hc.lt
  have hrw := hc.rows
  obtain ⟨_, q2, q3, most, depth, Ai, ci, An, cn, hm0, hk, _, _, _, _⟩ := hc
  obtain ⟨s1, s2, s3, ⟨b1, b2, b3, b4, b5, b6⟩, s5, s6, s7⟩ := hs
  have HPO := hide q3
  have CH := hide s7
  have k0 := hk.cell 0
  have m5 := s1.cell 5
  simp at k0 m5
  have hgsl := s1.lt
  have hnc4 : s.nc + 1 ≤ 3 := by omega
  have HCE : Hid (∀ w', Below w.heap.size w w' → w'.cell? ⟨gc, 0, none⟩ = some (.slice pr.A pr.n pr.c) ∧ w'.cell? ⟨gs, 5, none⟩ = some (.slice s.Ac s.nc s.cc) ∧ w'.cell? ⟨b, o + k * 4 + 2, none⟩ = some (.slice A1 L[k].2.2.1.length c1)) := fun w' hb' =>
    ⟨(hb'.cell (block_lt_of_cell k0)).trans k0, (hb'.cell (block_lt_of_cell m5)).trans m5, (hb'.cell (block_lt_of_cell p2)).trans p2⟩
  have hkn' : (k : Int) < pr.n := by omega
  have hk00 : (0 : Int) ≤ (k : Int) := by omega
  have pxx := p2
  rw [hA'] at HCE k0
  rw [hA'] at RX
  clear hk s1 s6 s7 hen h0 hb hbg hlin hln hlt hR RW0 p2
  generalize hL2 : L[k].2.2.1.length = na at *
  clear hL2
  have hna8 : na ≤ 8 := by omega
  go_enter Try.func104, Try.ntmps104
  go_upto_region 0 with fail
  go_cut [10] from 16 to 48 (fun s10 wx => ∃ (g2 : Nat) (t : Scd), s10 = .pointer (some ⟨g2, 0, none⟩) ∧ ScJ wx w0.heap.size gc ib g2 t [] [] (IsJ I) ∧ t.fu = k ∧ t.en = en ∧ t.nc = s.nc + 1 ∧ t.ar = na ∧ t.nl ≤ 8 ∧ t.vj = .slice none 0 0 ∧ (t.xs = locF L (k : Int) ∧ t.nl = (locF L (k : Int)).length) ∧ w.heap.size ≤ g2 ∧ Below w.heap.size w wx)
  case first =>
    go_region_held3 (fun w' => w'.cell? ⟨gc, 0, none⟩ = some (.slice (some ⟨b, o, none⟩) pr.n pr.c) ∧ w'.cell? ⟨gs, 5, none⟩ = some (.slice s.Ac s.nc s.cc) ∧ w'.cell? ⟨b, o + k * 4 + 2, none⟩ = some (.slice A1 na c1)) (first | (refine HCE.out _ ?_; (repeat (first | with_reducible exact Below.refl _ _ | with_reducible exact HB7.out | with_reducible exact HB6.out | with_reducible exact HB5.out | with_reducible refine Below.drew ?_ | with_reducible refine Below.alloc ?_ (by repeat (first | with_reducible exact Nat.le_refl _ | with_reducible exact le_drew _ | with_reducible exact HB7.out.size | with_reducible exact HB6.out.size | with_reducible exact HB5.out.size | with_reducible refine Nat.le_trans ?_ (le_a1 _ _) | with_reducible refine Nat.le_succ_of_le ?_)) _)); done) | fail) (first
      | (go_at_call 11; refine (i_endOf _ pr.n pr.c L _ _ (by omega) (RX.out.below (by repeat (first | with_reducible exact Below.refl _ _ | with_reducible exact HB7.out | with_reducible exact HB6.out | with_reducible exact HB5.out | with_reducible refine Below.drew ?_ | with_reducible refine Below.alloc ?_ (by repeat (first | with_reducible exact Nat.le_refl _ | with_reducible exact le_drew _ | with_reducible exact HB7.out.size | with_reducible exact HB6.out.size | with_reducible exact HB5.out.size | with_reducible refine Nat.le_trans ?_ (le_a1 _ _) | with_reducible refine Nat.le_succ_of_le ?_)) _)))).mono ?_; rintro e w' ⟨he, hww⟩; subst hww; rw [HEN.out] at he; subst he)
      | (go_at_call 16; refine (i_localsOf _ pr.n pr.c L _ _ (by omega) (RX.out.below (by repeat (first | with_reducible exact Below.refl _ _ | with_reducible exact HB7.out | with_reducible exact HB6.out | with_reducible exact HB5.out | with_reducible refine Below.drew ?_ | with_reducible refine Below.alloc ?_ (by repeat (first | with_reducible exact Nat.le_refl _ | with_reducible exact le_drew _ | with_reducible exact HB7.out.size | with_reducible exact HB6.out.size | with_reducible exact HB5.out.size | with_reducible refine Nat.le_trans ?_ (le_a1 _ _) | with_reducible refine Nat.le_succ_of_le ?_)) _)))).mono ?_; rintro e w5 ⟨⟨v, rfl, ho⟩, hb5⟩; obtain ⟨Al, cl, rfl, _, _, har, _⟩ := Arr.own2 ho; have HAR := hide har; have P5 := hide hb5; have HB5 := hide (below_transD (B := w.heap.size) (a := w) (hb5.mono (by repeat (first | with_reducible exact Nat.le_refl _ | with_reducible exact le_drew _ | with_reducible exact HB7.out.size | with_reducible exact HB6.out.size | with_reducible exact HB5.out.size | with_reducible refine Nat.le_trans ?_ (le_a1 _ _) | with_reducible refine Nat.le_succ_of_le ?_))) (by repeat (first | with_reducible exact Below.refl _ _ | with_reducible exact HB7.out | with_reducible exact HB6.out | with_reducible exact HB5.out | with_reducible refine Below.drew ?_ | with_reducible refine Below.alloc ?_ (by repeat (first | with_reducible exact Nat.le_refl _ | with_reducible exact le_drew _ | with_reducible exact HB7.out.size | with_reducible exact HB6.out.size | with_reducible exact HB5.out.size | with_reducible refine Nat.le_trans ?_ (le_a1 _ _) | with_reducible refine Nat.le_succ_of_le ?_)) _))); have HS5 := hide hb5.size; clear ho har hb5)
      | (refine step_appsD _ rfl (.tmp 38) (.tmp 42) _ rfl w.heap.size 3 i1 _ 1 8 Try.underlying28 HI1.out hy0 hy1 hy2 rfl (by decide) (.slice (some ⟨_, 0, none⟩) 0 0) 0 [] rfl (ownsRow_blk (by repeat (first | with_reducible exact Blk.new _ _ _ | (with_reducible refine blk_new' ?_; (first | rfl | (simp; done))) | with_reducible refine Blk.alloc ?_ _ | with_reducible refine Blk.drew ?_ | with_reducible refine Blk.below ?_ P5.out (by first | (simp; done) | (simp; omega) | omega) | with_reducible refine Blk.grown ?_ G6.out (by first | (have hq := HS5.out; simp [Value.ownBlock] at hq ⊢; done) | (have hq := HS5.out; simp [Value.ownBlock] at hq ⊢; omega) | (have hq := HS5.out; simp [Value.ownBlock]; omega)))) (by first | with_reducible exact Nat.le_refl _ | with_reducible exact HB5.out.size | exact Nat.le_succ_of_le (Nat.le_refl _) | exact Nat.le_succ_of_le HB5.out.size)) s.Ac s.nc s.cc (intCells s.ch) rfl (CH.out.1.below (by repeat (first | with_reducible exact Below.refl _ _ | with_reducible exact HB7.out | with_reducible exact HB6.out | with_reducible exact HB5.out | with_reducible refine Below.drew ?_ | with_reducible refine Below.alloc ?_ (by repeat (first | with_reducible exact Nat.le_refl _ | with_reducible exact le_drew _ | with_reducible exact HB7.out.size | with_reducible exact HB6.out.size | with_reducible exact HB5.out.size | with_reducible refine Nat.le_trans ?_ (le_a1 _ _) | with_reducible refine Nat.le_succ_of_le ?_)) _))) (intCells_one _) (by omega) (by decide) (by repeat (first | with_reducible exact Nat.le_refl _ | with_reducible exact le_drew _ | with_reducible exact HB7.out.size | with_reducible exact HB6.out.size | with_reducible exact HB5.out.size | with_reducible refine Nat.le_trans ?_ (le_a1 _ _) | with_reducible refine Nat.le_succ_of_le ?_)) ?_; intro v6 w6 hown6 hb6 hg6 hv6; have hown6 : w6.ownsRow w.heap.size 3 1 v6 s.nc (intCells s.ch) := (by simpa only [Nat.zero_add, List.nil_append] using hown6); obtain ⟨D6, d6, rfl, _⟩ := Arr.own2 hown6; have HO6 := hide hown6; have HB6 := hide (below_transD (B := w.heap.size) (a := w) hb6 (by repeat (first | with_reducible exact Below.refl _ _ | with_reducible exact HB7.out | with_reducible exact HB6.out | with_reducible exact HB5.out | with_reducible refine Below.drew ?_ | with_reducible refine Below.alloc ?_ (by repeat (first | with_reducible exact Nat.le_refl _ | with_reducible exact le_drew _ | with_reducible exact HB7.out.size | with_reducible exact HB6.out.size | with_reducible exact HB5.out.size | with_reducible refine Nat.le_trans ?_ (le_a1 _ _) | with_reducible refine Nat.le_succ_of_le ?_)) _))); have HS6 := hide hb6.size; have G6 := hide hg6; have V6 := hide hv6; clear hown6 hb6 hg6 hv6)
      | (refine step_appsD _ rfl (.tmp 43) (.tmp 45) _ rfl w.heap.size 3 i1 _ 1 8 Try.underlying28 HI1.out hy0 hy1 hy2 rfl (by decide) (.slice D6 s.nc d6) s.nc (intCells s.ch) rfl (own_belowZ HO6.out (by repeat (first | with_reducible exact Below.refl _ _ | with_reducible refine Below.alloc ?_ (Nat.le_refl _) _))) (some ⟨_, 0, none⟩) 1 1 [.int .i64 line] rfl (inRow_blk1 (t := 3) (by repeat (first | with_reducible exact Blk.new _ _ _ | (with_reducible refine blk_new' ?_; (first | rfl | (simp; done))) | with_reducible refine Blk.alloc ?_ _ | with_reducible refine Blk.drew ?_ | with_reducible refine Blk.below ?_ P5.out (by first | (simp; done) | (simp; omega) | omega) | with_reducible refine Blk.grown ?_ G6.out (by first | (have hq := HS5.out; simp [Value.ownBlock] at hq ⊢; done) | (have hq := HS5.out; simp [Value.ownBlock] at hq ⊢; omega) | (have hq := HS5.out; simp [Value.ownBlock]; omega))))) (by intro u hu; simp at hu; subst hu; rfl) (by omega) (by decide) (by repeat (first | with_reducible exact Nat.le_refl _ | with_reducible exact le_drew _ | with_reducible exact HB7.out.size | with_reducible exact HB6.out.size | with_reducible exact HB5.out.size | with_reducible refine Nat.le_trans ?_ (le_a1 _ _) | with_reducible refine Nat.le_succ_of_le ?_)) ?_; intro v7 w7 hown7 hb7 hg7 hv7; obtain ⟨D7, d7, rfl, _⟩ := Arr.own2 hown7; have HO7 := hide hown7; have HB7 := hide (below_transD (B := w.heap.size) (a := w) hb7 (by repeat (first | with_reducible exact Below.refl _ _ | with_reducible exact HB7.out | with_reducible exact HB6.out | with_reducible exact HB5.out | with_reducible refine Below.drew ?_ | with_reducible refine Below.alloc ?_ (by repeat (first | with_reducible exact Nat.le_refl _ | with_reducible exact le_drew _ | with_reducible exact HB7.out.size | with_reducible exact HB6.out.size | with_reducible exact HB5.out.size | with_reducible refine Nat.le_trans ?_ (le_a1 _ _) | with_reducible refine Nat.le_succ_of_le ?_)) _))); have HS7 := hide hb7.size; have G7 := hide hg7; clear hown7 hb7 hg7 hv7)
      | fail)
    all_goals
      go_wp2_with fail
    all_goals
      go_meet
      have hz7 := HB7.out.size
      have hz5 := HB5.out.size
      have hz56 := HS6.out
      have hz67 := HS7.out
      have hz55 := HS5.out
      have hdz : w.drew.heap.size = w.heap.size := rfl
      try simp only [drew_size, World.size_alloc] at hz56
      try simp only [drew_size, World.size_alloc] at hz67
      try simp only [drew_size, World.size_alloc] at hz55
      have hA0 : 0 < (locF L (k : Int)).length → ∃ b, Al = some ⟨b, 0, none⟩ := fun hn => by
        obtain ⟨bb, e2, _⟩ := HAR.out.2 hn
        exact ⟨bb, e2⟩
      have r6 : InRow w6 Al (locF L (k : Int)).length 1 (strCells (locF L (k : Int))) := by
        refine inRow_grown (hg := G6.out) ((InRow.of_arr HAR.out).below (by repeat (first | with_reducible exact Below.refl _ _ | with_reducible refine Below.alloc ?_ (by repeat (first | with_reducible exact Nat.le_refl _ | with_reducible refine Nat.le_trans ?_ (le_a1 _ _) | with_reducible refine Nat.le_succ_of_le ?_)) _))) (fun hn b e e3 => ?_) hA0
        obtain ⟨bb, e2, g1, g2, _⟩ := HAR.out.2 hn
        rw [e] at e2
        cases e2
        try simp only [drew_size, World.size_alloc] at g1
        change some _ = some _ at e3
        injection e3 with e3
        try dsimp only at e3
        omega
      have r7 : InRow w7 Al (locF L (k : Int)).length 1 (strCells (locF L (k : Int))) := by
        refine inRow_grown (hg := G7.out) (r6.below (by repeat (first | with_reducible exact Below.refl _ _ | with_reducible refine Below.alloc ?_ (by repeat (first | with_reducible exact Nat.le_refl _ | with_reducible refine Nat.le_trans ?_ (le_a1 _ _) | with_reducible refine Nat.le_succ_of_le ?_)) _))) (fun hn b e e3 => ?_) hA0
        obtain ⟨bb, e2, g1, g2, _⟩ := HAR.out.2 hn
        rw [e] at e2
        cases e2
        try simp only [drew_size, World.size_alloc] at g1
        rcases V6.out with h1 | h1
        · rw [h1] at e3
          change some _ = some _ at e3
          injection e3 with e3
          try dsimp only at e3
          omega
        · rw [h1] at e3
          injection e3 with e3
          try simp only [drew_size, World.size_alloc] at e3
          omega
      refine ⟨w7.heap.size, ⟨k, en, na, 0, 0, Al, (locF L (k : Int)).length, cl, locF L (k : Int), D7, s.nc + 1, d7, s.ch ++ [line], .slice none 0 0⟩, rfl, ⟨Blk.new w7 _ _, by show w7.heap.size ≠ gc; omega, fun e => ?_, ⟨hloc, by show (0 : Int) ≤ (na : Int); omega, by show (na : Int) ≤ (((locF L (k : Int)).length : Nat) : Int); omega, Int.le_refl _, by show (0 : Int) ≤ 64; omega, hnc4⟩, by show s.nc + 1 ≤ 100000; omega, ⟨?_, fun hn0 ad e1 => ?_⟩, ⟨?_, fun hn0 ad e1 => ?_⟩, ⟨none, 0, rfl⟩, World.ownsRow_nil _ _ _ _, rfl, fun b hb => (by cases hb), fun j hj => (by cases hj)⟩, rfl, rfl, rfl, rfl, hloc, rfl, ⟨rfl, rfl⟩, HB7.out.size, HB7.out.alloc HB7.out.size _⟩
      · have := (hrw _ (by simpa using e)).2; omega
      · exact r7.below ((Below.refl _ _).alloc (Nat.le_refl _) _)
      · obtain ⟨bb, e2, g1, g2, _⟩ := HAR.out.2 hn0
        change Al = some ad at e1
        rw [e1] at e2
        cases e2
        try simp only [drew_size, World.size_alloc] at g1
        refine ⟨by show bb ≠ gc; omega, fun e3 => ?_⟩
        rcases List.mem_cons.1 e3 with e3 | e3
        · have : bb = w7.heap.size := e3
          omega
        · have := (hrw bb (by simpa using e3)).2; omega
      · have e4 : intCells (s.ch ++ [line]) = intCells s.ch ++ [.int .i64 line] := by simp [intCells]
        obtain ⟨D', d', e5, _, har7⟩ := Arr.of_own HO7.out
        cases e5
        show InRow _ D7 (s.nc + 1) 1 (intCells (s.ch ++ [line]))
        rw [e4]
        exact (InRow.of_arr har7).below ((Below.refl _ _).alloc (Nat.le_refl _) _)
      · obtain ⟨D', d', e5, _, _, har7, _⟩ := Arr.own2 HO7.out
        cases e5
        obtain ⟨bb, e2, g1, g2, _⟩ := har7.2 hn0
        change D7 = some ad at e1
        rw [e1] at e2
        cases e2
        refine ⟨by show bb ≠ gc; omega, fun e3 => ?_⟩
        rcases List.mem_cons.1 e3 with e3 | e3
        · have : bb = w7.heap.size := e3
          omega
        · have := (hrw bb (by simpa using e3)).2; omega
  case rest =>
    obtain ⟨g2, t, rfl, hj, hfu, hen2, hnc2, har2, hnl2, hvj2, hxs2, hg2, hbx⟩ := hcut
    have TXS := hide hxs2
    clear hxs2
    have JX := hide hj
    have TX := hide (And.intro hfu (And.intro hen2 (And.intro hnc2 hvj2)))
    have HAR2 := hide har2
    have BX := hide hbx
    have C1 := hide (HC.out.grow (HC.out.kept hbx) [g2] (fun b hb => by obtain rfl := List.mem_singleton.1 hb; exact ⟨.inr hg2, hj.k.lt⟩))
    have E1 := hide (Ev.of_below hbx gc ib)
    have S1 := hide (HS.out.ev E1.out)
    have gsl1 : gs < wc.heap.size := S1.out.1.lt
    have hgg : gs < g2 := by omega
    have hcg : gc < g2 := by omega
    have n4 := S1.out.1.cell 4
    have n2 := S1.out.1.cell 2
    have n3 := S1.out.1.cell 3
    have n5 := S1.out.1.cell 5
    have j4 := hj.k.cell 4
    have jf4 := hj.k.frozen 4
    simp at n4 n2 n3 n5 j4
    clear hj hfu hen2 hnc2 har2 hvj2 hbx k0 m5 pxx HCE RX
    go_upto_region 1 with fail
    go_cut [10] from 49 to 61 (fun s10 wx => s10 = .pointer (some ⟨g2, 0, none⟩) ∧ ∃ fi : Int, (0 ≤ fi ∧ fi ≤ 8 * ((s.nc : Int) + 1) ∧ fi = s.fi + (s.nl : Int)) ∧ ScJ wx w0.heap.size gc ib g2 { t with fi := fi } [] [] (IsJ I) ∧ Below w.heap.size w wx)
    case first =>
      go_still_tail 13, (by kernel_rfl)
      change wpList _ _ _ _ _ wc.drew
      go_wp2_with fail
      go_meet
      exact ⟨rfl, _, (by first | omega | (unfold wrap64; omega)), (JX.out.below (Below.refl _ _).drew).fi_ _ (by first | omega | (unfold wrap64; omega)), (BX.out.drew).setCell (p := ⟨g2, 4, none⟩) hg2 _⟩
    case rest =>
      obtain ⟨rfl, fi1, ⟨hfi1a, hfi1b, hfi1c⟩, hj1, hb1⟩ := hcut
      have hfi1 : 0 ≤ fi1 ∧ fi1 ≤ 8 * ((s.nc : Int) + 1) := ⟨hfi1a, hfi1b⟩
      have HFX := hide hfi1c
      clear hfi1a hfi1b hfi1c
      have J1 := hide hj1
      have B1 := hide hb1
      have S2 := hide (HS.out.ev (Ev.of_below hb1 gc ib))
      have n4 := S2.out.1.cell 4
      have n2 := S2.out.1.cell 2
      have n3 := S2.out.1.cell 3
      have n5 := S2.out.1.cell 5
      have j4 := hj1.k.cell 4
      have jf4 := hj1.k.frozen 4
      simp at n4 n2 n3 n5 j4
      clear hj1 hb1
      go_upto_if 67 with fail
      go_cut [10] from 67 to 85 (fun s10 wx => s10 = .pointer (some ⟨g2, 0, none⟩) ∧ ∃ fi : Int, (0 ≤ fi ∧ fi ≤ 8 * ((s.nc : Int) + 1) ∧ fi = qFi) ∧ ScJ wx w0.heap.size gc ib g2 { t with fi := fi } [] [] (IsJ I) ∧ Below w.heap.size w wx)
      case first =>
        by_cases hz : s.nc = 0
        · have z : ((s.nc : Int) == 0) = true := by simpa using hz
          have z' : (s.nc == 0) = true := by simpa using hz
          have HZ := hide hz
          have hfz : s.fi = 0 := by omega
          have HQF := hide (HFI0.out hz)
          clear hz
          go_upto_region 3 with fail
          go_still_tail 18, (by kernel_rfl)
          change wpList _ _ _ _ _ wc.drew
          go_wp2_with fail
          go_meet
          exact ⟨rfl, _, (by have hq := HQF.out; have hq1 := HFX.out; first | omega | (unfold wrap64; omega)), (J1.out.below (Below.refl _ _).drew).fi_ _ (by first | omega | (unfold wrap64; omega)), (B1.out.drew).setCell (p := ⟨g2, 4, none⟩) hg2 _⟩
        · have z : ((s.nc : Int) == 0) = false := by simpa using hz
          have z' : (s.nc == 0) = false := by simpa using hz
          have HQF := hide (HFI1.out hz)
          clear hz
          go_wp2_with fail
          go_meet
          exact ⟨rfl, _, ⟨hfi1.1, hfi1.2, HFX.out.trans HQF.out.symm⟩, J1.out, B1.out⟩
      case rest =>
        obtain ⟨rfl, fi2, hfi2, hj2, hb2⟩ := hcut
        obtain ⟨t2, ht2⟩ : ∃ t2 : Scd, t2 = { t with fi := fi2 } := ⟨_, rfl⟩
        rw [← ht2] at hj2
        have hfi2' : t2.fi ≤ 8 * ((s.nc : Int) + 1) := by rw [ht2]; exact hfi2.2.1
        have T2F : Hid (t2.fi = qFi ∧ t2.xs = locF L (k : Int) ∧ t2.nl = (locF L (k : Int)).length) := by
          show _ ∧ _
          rw [ht2]; exact ⟨hfi2.2.2, TXS.out⟩
        have hfi2a := hfi2.1
        have hfi2b := hfi2.2.1
        clear hfi2
        obtain ⟨u1, u2, u3, u4, u5, u6⟩ := hj2.l1
        have T2 : Hid ((t2.fu = k ∧ t2.en = en ∧ t2.nc = s.nc + 1 ∧ t2.vj = .slice none 0 0) ∧ t2.ar = na ∧ t2.nl ≤ 8) := by
          show _ ∧ _
          rw [ht2]; exact ⟨TX.out, HAR2.out, hnl2⟩
        clear ht2 TX HAR2
        have J2 := hide hj2
        have B2 := hide hb2
        have C2 := hide (HC.out.grow (HC.out.kept hb2) [g2] (fun b hb => by obtain rfl := List.mem_singleton.1 hb; exact ⟨.inr hg2, hj2.k.lt⟩))
        have j4 := hj2.k.cell 4
        have j2 := hj2.k.cell 2
        simp at j4 j2
        obtain ⟨_, _, _, most2, depth2, Ai2, ci2, An2, cn2, ⟨hm2, hm2b, _, _⟩, hk2, _, _, _, _⟩ := C2.out
        have HV2 := hide (Vw_of hk2 I)
        have HM2 : Hid (qM = ⟨opL I, max most2 (t2.fi + (t2.nl : Int)), depth2⟩) := by
          show _ = _
          rw [HQM.out, ← Vw_below hb2 HC.out.lt, Vw_of hk2, T2F.out.1, T2F.out.2.2]
        have k7 := hk2.cell 7
        have kf7 := hk2.frozen 7
        simp at k7
        clear hj2 hb2 hk2 n4 n2 n3 n5 jf4
        go_upto_region 4 with fail
        go_cut [10] from 86 to 103 (fun s10 wx => s10 = .pointer (some ⟨g2, 0, none⟩) ∧ CSt wx w0.heap.size gc { pr with tb := [g2] ++ pr.tb } I ib ∧ ScJ wx w0.heap.size gc ib g2 t2 [] [] (IsJ I) ∧ Ev gc ib w ib wx ∧ Vw wx gc I = qM)
        case first =>
          go_still_tail 18, (by kernel_rfl)
          change wpList _ _ _ _ _ wc.drew
          have CLM : Hid (∀ d : Int, 0 ≤ d ∧ d ≤ 100 → d = max most2 (t2.fi + (t2.nl : Int)) → CSt (wc.setCell ⟨gc, 7, none⟩ (.int .i64 d)).drew w0.heap.size gc { pr with tb := [g2] ++ pr.tb } I ib ∧ ScJ (wc.setCell ⟨gc, 7, none⟩ (.int .i64 d)).drew w0.heap.size gc ib g2 t2 [] [] (IsJ I) ∧ Ev gc ib w ib (wc.setCell ⟨gc, 7, none⟩ (.int .i64 d)).drew ∧ Vw (wc.setCell ⟨gc, 7, none⟩ (.int .i64 d)).drew gc I = qM) := fun d hd hdm => by
            have CM := C2.out.most d hd
            exact ⟨CM.1.kept (Below.refl _ _).drew, (J2.out.ev CM.2 (fun _ h => h)).below (Below.refl _ _).drew, ((Ev.of_below B2.out gc ib).trans CM.2).trans (Ev.of_below (Below.refl _ _).drew gc ib), by rw [Vw_below (Below.refl _ _).drew CM.1.lt, C2.out.most_vw, HV2.out, HM2.out, hdm]⟩
          go_wp2_with fail
          all_goals go_meet
          all_goals exact ⟨rfl, CLM.out _ (by omega) (by omega)⟩
        case rest =>
          obtain ⟨rfl, hc3, hj3, he3, hw3⟩ := hcut
          have VM3 := hide hw3
          clear hw3
          have C3 := hide hc3
          have J3 := hide hj3
          have E3 := hide he3
          have S3 := hide (HS.out.ev he3)
          have j4 := hj3.k.cell 4
          have j2 := hj3.k.cell 2
          have n5 := S3.out.1.cell 5
          simp at j4 j2 n5
          clear hc3 hj3 he3 k7 kf7
          go_upto_region 5 with fail
          go_cut [11] from 104 to 117 (fun s11 wx => ∃ (go : Nat) (so : Scd), s11 = .pointer (some ⟨go, 0, none⟩) ∧ ScP wx gc ib go so ∧ so.nc = s.nc ∧ CSt wx w0.heap.size gc { pr with tb := [g2] ++ pr.tb } I ib ∧ ScJ wx w0.heap.size gc ib g2 t2 [] [] (IsJ I) ∧ Ev gc ib w ib wx ∧ so.fi = qFi ∧ Vw wx gc I = qM)
          case first =>
            go_still_tail 13, (by kernel_rfl)
            change wpList _ _ _ _ _ wc.drew
            go_wp2_with fail
            go_meet
            have BO : Below wc.heap.size wc (wc.drew.alloc (.cells #[.int .i64 0, .int .i64 0, .slice t2.Al t2.nl t2.cl, .int .i64 0, .int .i64 t2.fi, .slice s.Ac s.nc s.cc, .int .i64 0, .slice none 0 0] 114)) := (Below.refl _ _).drew.alloc (Nat.le_refl _) _
            have hgc3 := C3.out.lt
            have hrw3 := C3.out.rows
            refine ⟨wc.heap.size, ⟨0, 0, 0, t2.fi, 0, t2.Al, t2.nl, t2.cl, t2.xs, s.Ac, s.nc, s.cc, s.ch, .slice none 0 0⟩, rfl, ⟨Blk.new wc.drew _ _, by show wc.heap.size ≠ gc; omega, fun e => by have := (hrw3 _ e).2; omega, ⟨J3.out.l1.1, Int.le_refl _, by show (0 : Int) ≤ (t2.nl : Int); omega, J3.out.l1.2.2.2.1, J3.out.l1.2.2.2.2.1, by show s.nc ≤ 3; omega⟩, S3.out.2.2.2.2.1, (J3.out.scp.2.2.2.2.2.1).ev (Ev.of_below BO gc ib), (S3.out.2.2.2.2.2.2).ev (Ev.of_below BO gc ib)⟩, rfl, C3.out.kept BO, J3.out.below BO, E3.out.trans (Ev.of_below BO gc ib), T2F.out.1, (Vw_below BO C3.out.lt I).trans VM3.out⟩
          case rest =>
            obtain ⟨go, so, rfl, hso, hsnc, hc4, hj4, he4, hsof, hw4⟩ := hcut
            have VM4 := hide hw4
            have SOF := hide hsof
            clear hw4 hsof
            have O4 := hide hso
            have SNC := hide hsnc
            have C4 := hide hc4
            have J4 := hide hj4
            have E4 := hide he4
            have j3 := hj4.k.cell 3
            simp at j3
            rw [T2.out.2.1] at j3
            have hB4 : w0.heap.size ≤ wc.heap.size := Nat.le_trans HB.out.size he4.size
            have HNI : Hid ((s.nc : Int) ≤ pr.inl) := Int.le_of_lt HLT.out
            clear hso hsnc hc4 hj4 he4 j4 j2 n5
            go_upto_region 6 with fail
            go_wp2_with fail
            go_loopw [12] (fun iv wr => ∃ (i : Int) (J : List It) (ib1 : List Nat), -1 ≤ i ∧ i < na ∧ iv = .int .i64 i ∧ Gro pr.n pr.inl 0 I J ((na : Int) - 1 - i).toNat ∧ Bg J begin line s.nc ∧ CSt wr w0.heap.size gc { pr with tb := [g2] ++ pr.tb } J ib1 ∧ Ev gc ib wc ib1 wr ∧ wordsDn pr.framed qFi (i + 1).toNat (Vw wr gc J) = qD) (fun iv _ => (intOf iv + 1).toNat)
            case atStart => exact ⟨(na : Int) - 1, I, ib, by omega, by omega, by go_num, (Gro.refl _ _ _ _).mono (Nat.zero_le _), HBG.out, C4.out, Ev.refl _ _ _, by rw [show ((na : Int) - 1 + 1).toNat = na by omega, VM4.out]; exact HQD.out.symm⟩
            case round =>
              obtain ⟨i, J, ib1, hi1, hi2, rfl, hG, hB5, hc5, hv5, hw5⟩ := hrel
              have VD5 := hide hw5
              clear hw5
              have G5 := hide hG
              have B5 := hide hB5
              have C5 := hide hc5
              have V5 := hide hv5
              have hJl := hG.hi
              have hB5s : w0.heap.size ≤ wr.heap.size := Nat.le_trans hB4 hv5.size
              clear hG hB5 hc5 hv5 j3
              by_cases hi0 : 0 ≤ i
              · have z : decide (0 ≤ i) = true := decide_eq_true hi0
                go_wp2_with fail
                refine (i_word _ _ gc go _ _ _ so line i C5.out (O4.out.ev V5.out) (by omega) (by omega) hB5s).mono ?_
                rintro e w6 ⟨rfl, x, ib2, hx, hc6, hv6, hw6⟩
                have VD6 : Hid (wordsDn pr.framed qFi (i - 1 + 1).toNat (Vw w6 gc (J ++ [x])) = qD) := by
                  show _ = _
                  rw [hw6, SOF.out, ← VD5.out]
                  exact (wordsDn_step _ _ _ _ hi0).symm
                clear hw6
                have C6 := hide hc6
                have V6 := hide hv6
                have HX := hide hx
                clear hx hc6 hv6
                rw [SNC.out] at HX
                go_wp2_with fail
                go_roundw
                case rel => exact ⟨i - 1, J ++ [x], ib2, by omega, by omega, by go_num, (G5.out.trans (Gro.plain HX.out HLN.out HNI.out)).mono (by omega), (B5.out.one HX.out.1 HX.out.2.2.1).1, C6.out, V5.out.trans V6.out, VD6.out⟩
                case measure => simp [intOf]; omega
              · have z : decide (0 ≤ i) = false := decide_eq_false hi0
                have j3 := (J4.out.ev V5.out (fun _ h => h)).k.cell 3
                simp at j3
                rw [T2.out.2.1] at j3
                have VU5 : Hid (Vw wr gc J = qD) := by
                  show _ = _
                  rw [← VD5.out, show (i + 1).toNat = 0 by omega]
                  rfl
                have GI : Hid (Gro pr.n pr.inl 0 I J (na + 2 * (na - na))) := G5.out.mono (by omega)
                clear G5 hJl hi1 hi2 hi0
                go_wp2_with fail
                go_loopw [13] (fun iv wr => ∃ (i : Nat) (K : List It) (ib2 : List Nat), iv = .int .i64 i ∧ na ≤ i ∧ (i = na ∨ i ≤ 8) ∧ Gro pr.n pr.inl 0 I K (na + 2 * (i - na)) ∧ Bg K begin line s.nc ∧ CSt wr w0.heap.size gc { pr with tb := [g2] ++ pr.tb } K ib2 ∧ Ev gc ib wc ib2 wr ∧ wordsUp pr.framed qFi (t2.nl - i) i (Vw wr gc K) = qU) (fun iv _ => t2.nl - (intOf iv).toNat)
                case atStart => exact ⟨na, J, ib1, rfl, Nat.le_refl _, .inl rfl, GI.out, B5.out, C5.out, V5.out, by rw [VU5.out, T2F.out.2.2]; exact HQU.out.symm⟩
                case round =>
                  obtain ⟨i2, K, ib2, rfl, hi3, hi4, hG6, hB6, hc6, hv6, hw6⟩ := hrel
                  have VU6 := hide hw6
                  clear hw6
                  have G6 := hide hG6
                  have B6 := hide hB6
                  have C6 := hide hc6
                  have V6 := hide hv6
                  have hKl := hG6.hi
                  have hB6s : w0.heap.size ≤ wr.heap.size := Nat.le_trans hB4 hv6.size
                  have j2 := (J4.out.ev hv6 (fun _ h => h)).k.cell 2
                  simp at j2
                  have hnl8 := T2.out.2.2
                  clear hG6 hB6 hc6 hv6 j3
                  by_cases hil : i2 < t2.nl
                  · have z : decide ((i2 : Int) < (t2.nl : Int)) = true := decide_eq_true (by omega)
                    have z' : decide (i2 < t2.nl) = true := decide_eq_true hil
                    go_wp2_with fail
                    refine (i_addS _ _ gc gs _ _ _ s _ _ _ _ C6.out (HS.out.ev (E4.out.trans V6.out)) (by omega) hB6s (by omega)).mono ?_
                    rintro e w7 ⟨rfl, x, ib3, ⟨h1, h2, h3, h4, h5⟩, hc7, hv7, hw7⟩
                    have VW7 := hide hw7
                    clear hw7
                    have C7 := hide hc7
                    have V7 := hide hv7
                    have G7 : Hid (Gro pr.n pr.inl 0 K (K ++ [x]) 1) := Gro.one (by rw [h3]; exact HLN.out) (by rw [h5]; exact HNI.out) (fun e => by omega) (by rw [h1, h2]; unfold ArgOk; omega)
                    have B7 := hide (B6.out.one h3 h5).1
                    have hB7s := Nat.le_trans hB6s hv7.size
                    clear hc7 hv7 h1 h2 h3 h4 h5
                    go_wp2_with fail
                    refine (i_word _ _ gc go _ _ _ so line i2 C7.out (O4.out.ev (V6.out.trans V7.out)) (by rw [List.length_append, List.length_singleton]; omega) (by omega) hB7s).mono ?_
                    rintro e w8 ⟨rfl, y, ib4, hy, hc8, hv8, hw8⟩
                    have VU8 : Hid (wordsUp pr.framed qFi (t2.nl - (i2 + 1)) (i2 + 1) (Vw w8 gc ((K ++ [x]) ++ [y])) = qU) := by
                      show _ = _
                      rw [hw8, VW7.out, SOF.out, ← VU6.out]
                      exact (wordsUp_step _ _ _ _ _ hil).symm
                    clear hw8
                    have C8 := hide hc8
                    have V8 := hide hv8
                    rw [SNC.out] at hy
                    have HY := hide hy
                    clear hc8 hv8 hy
                    go_wp2_with fail
                    go_roundw
                    case rel => exact ⟨i2 + 1, (K ++ [x]) ++ [y], ib4, by go_num, by omega, .inr (by omega), ((G6.out.trans G7.out).trans (Gro.plain HY.out HLN.out HNI.out)).mono (by omega), (B7.out.one HY.out.1 HY.out.2.2.1).1, C8.out, (V6.out.trans V7.out).trans V8.out, VU8.out⟩
                    case measure => simp [intOf]; omega
                  · have z : decide ((i2 : Int) < (t2.nl : Int)) = false := decide_eq_false (by omega)
                    have z' : decide (i2 < t2.nl) = false := decide_eq_false hil
                    obtain ⟨_, _, _, most9, depth9, Ai9, ci9, An9, cn9, hm9, hk9, _, _, _, _⟩ := C6.out
                    have k8 := hk9.cell 8
                    simp at k8
                    have VK6 : Hid (Vw wr gc K = qU) := by
                      show _ = _
                      rw [← VU6.out, show t2.nl - i2 = 0 by omega]
                      rfl
                    have HKL : Hid (qU.ops.length = K.length) := by
                      show _ = _
                      rw [← VK6.out, Vw_len]
                    have GK : Hid (Gro pr.n pr.inl 0 I K 40) := G6.out.mono (by omega)
                    clear hk9
                    go_upto_if 160 with fail
                    go_cut [10] from 160 to 164 (fun s10 wx => s10 = .pointer (some ⟨g2, 0, none⟩) ∧ ∃ (M : List It) (ib3 : List Nat), Gro pr.n pr.inl 0 I M 41 ∧ (Bg M begin line s.nc ∧ begin < M.length) ∧ CSt wx w0.heap.size gc { pr with tb := [g2] ++ pr.tb } M ib3 ∧ Ev gc ib wc ib3 wx ∧ Vw wx gc M = q4)
                    case first =>
                      by_cases hbe : K.length = begin
                      · have z2 : ((K.length : Int) == (begin : Int)) = true := by rw [hbe]; exact beq_self_eq_true _
                        have z2' : (K.length == begin) = true := by simpa using hbe
                        have HBE : Hid (q4 = addF qU 15 0 0) := by
                          show _ = _
                          rw [HQ4.out]; unfold spcF; rw [if_pos (HKL.out.trans hbe)]
                        clear hbe
                        go_wp2_with fail
                        refine (i_addS _ _ gc gs _ _ _ s _ _ _ _ C6.out (HS.out.ev (E4.out.trans V6.out)) (by omega) hB6s (by omega)).mono ?_
                        rintro e w7 ⟨rfl, x, ib3, ⟨h1, h2, h3, h4, h5⟩, hc7, hv7, hw7⟩
                        have VW7 := hide hw7
                        clear hw7
                        have C7 := hide hc7
                        have V7 := hide hv7
                        have G7 : Hid (Gro pr.n pr.inl 0 K (K ++ [x]) 1) := Gro.one (by rw [h3]; exact HLN.out) (by rw [h5]; exact HNI.out) (fun e => by omega) (by rw [h1, h2]; unfold ArgOk; omega)
                        have B7 := hide (B6.out.one h3 h5)
                        clear hc7 hv7 h1 h2 h3 h4 h5
                        go_wp2_with fail
                        go_meet
                        exact ⟨rfl, _, ib3, (GK.out.trans G7.out).mono (by omega), B7.out, C7.out, V6.out.trans V7.out, by rw [VW7.out, VK6.out]; exact HBE.out.symm⟩
                      · have z2 : ((K.length : Int) == (begin : Int)) = false := by simpa using (show ¬ ((K.length : Int) = (begin : Int)) by omega)
                        have z2' : (K.length == begin) = false := by simpa using hbe
                        have hbl : begin < K.length := by have := B6.out.1; omega
                        have HBE : Hid (q4 = qU) := by
                          show _ = _
                          rw [HQ4.out]; unfold spcF; rw [if_neg (by rw [HKL.out]; omega)]
                        clear hbe
                        go_wp2_with fail
                        go_meet
                        exact ⟨rfl, K, ib2, GK.out.mono (by omega), ⟨B6.out, hbl⟩, C6.out, V6.out, VK6.out.trans HBE.out.symm⟩
                    case rest =>
                      obtain ⟨rfl, M, ib3, hG7, ⟨hB7, hbM⟩, hc7, hv7, hw7⟩ := hcut
                      have VM7 := hide hw7
                      clear hw7
                      have G7 := hide hG7
                      have B7 := hide hB7
                      have C7 := hide hc7
                      have V7 := hide hv7
                      have hMl := hG7.hi
                      have hMlo := hG7.lo
                      clear hG7 hB7 hc7 hv7 k8 j2 hKl GK G6 B6 C6 V6 B5 C5 V5 GI
                      have J7 := hide (J4.out.ev V7.out (fun c hc => hc.gro G7.out))
                      have ET7 := hide (E4.out.trans V7.out)
                      obtain ⟨_, _, _, most9, depth9, Ai9, ci9, An9, cn9, hm9, hk9, _, _, _, _⟩ := C7.out
                      have HDE : Hid (depth9 = q4.d) := by
                        show _ = _
                        rw [← VM7.out, Vw_of hk9]
                      have k9 := hk9.cell 9
                      have HMD := hide hm9
                      simp at k9
                      have jf6 := J7.out.k.frozen 6
                      have j6 := J7.out.k.cell 6
                      simp at j6
                      clear hk9 J4 E4 O4 V7
                      go_upto_region 17 with fail
                      go_cut [10] from 165 to 171 (fun s10 wx => s10 = .pointer (some ⟨g2, 0, none⟩) ∧ ∃ t3 : Scd, ((-(200 + 8 * (M.length : Int)) ≤ t3.ba ∧ t3.ba ≤ 200 + 8 * (M.length : Int)) ∧ t3.fi ≤ 8 * ((s.nc : Int) + 1)) ∧ ScJ wx w0.heap.size gc ib3 g2 t3 [] [] (IsJ M) ∧ t3.fu = k ∧ t3.en = en ∧ t3.nc = s.nc + 1 ∧ CSt wx w0.heap.size gc { pr with tb := [g2] ++ pr.tb } M ib3 ∧ Ev gc ib w ib3 wx ∧ t3.sp = qSn ∧ Vw wx gc M = q4)
                      case first =>
                        go_wp2_with fail
                        go_meet
                        exact ⟨rfl, { t2 with ba := depth9 }, ⟨HMD.out.2.2, hfi2'⟩, J7.out.ba_ _, T2.out.1.1, T2.out.1.2.1, T2.out.1.2.2.1, C7.out.far (p := ⟨g2, 6, none⟩) J7.out.ne (fun e => J7.out.ni (List.mem_append_right _ e)) (show g2 ∈ [g2] ++ pr.tb from List.mem_cons_self) _, ET7.out.set (p := ⟨g2, 6, none⟩) hg2 _, by rw [HQS.out]; show (⟨t2.fu, t2.en, t2.ar, t2.fi, depth9, t2.xs, t2.nl, t2.nc⟩ : Sp) = _; rw [T2.out.1.1, T2.out.1.2.1, T2.out.2.1, T2F.out.1, HDE.out, T2F.out.2.1, T2F.out.2.2, T2.out.1.2.2.1, HEN.out], by rw [Vw_far _ (p := ⟨g2, 6, none⟩) J7.out.ne]; exact VM7.out⟩
                      case rest =>
                        obtain ⟨rfl, t3, hba3, hj8, hfu3, hen3, hnc3, hc8, hv8, hsp3, hw8⟩ := hcut
                        have SP3 := hide hsp3
                        have VM8 := hide hw8
                        clear hsp3 hw8
                        have J8 := hide hj8
                        have C8 := hide hc8
                        have E8 := hide hv8
                        have HBA := hide hba3
                        have T3 := hide (And.intro hnc3 (And.intro hfu3 hen3))
                        obtain ⟨c1', c2', c3', most9, depth9, Ai9, ci9, An9, cn9, hm9, hk9, ho9, hi9, hd9, hr9⟩ := hc8
                        have HM9 := hide hm9
                        have HK9 := hide hk9
                        have HO9 := hide ho9
                        have HI9 := hide hi9
                        have HD9 := hide hd9
                        have HR9 := hide hr9
                        have k10 := hk9.cell 10
                        simp at k10
                        have hgi : ∀ b, (Value.slice Ai9 M.length ci9).ownBlock = some b → b ≠ gc := fun b hb e => c2' (by rw [← hr9, ← e]; exact mem_rws.2 (.inl hb))
                        have hgn : ∀ b, (Value.slice An9 pr.ins cn9).ownBlock = some b → b ≠ gc := fun b hb e => c2' (by rw [← hr9, ← e]; exact mem_rws.2 (.inr hb))
                        have HGI := hide hgi
                        have HGN := hide hgn
                        have hgc8 : gc < wc.heap.size := hk9.lt
                        have hB8 : w0.heap.size ≤ wc.heap.size := Nat.le_trans HB.out.size hv8.size
                        clear hba3 hj8 hv8 hfu3 hen3 hnc3 hm9 hk9 ho9 hi9 hd9 hr9 hgi hgn k9 jf6 j6 J7 ET7 C7
                        go_upto_region 18 with fail
                        go_cut [10] from 172 to 181 (fun s10 wx => s10 = .pointer (some ⟨g2, 0, none⟩) ∧ ∃ ib4 : List Nat, CSt wx w0.heap.size gc { pr with ins := pr.ins + 1, ns := pr.ns ++ [(k : Int)], tb := [g2] ++ pr.tb } M ib4 ∧ ScJ wx w0.heap.size gc ib4 g2 t3 [] [] (IsJ M) ∧ Ev gc ib w ib4 wx ∧ Vw wx gc M = q4)
                        case first =>
                          go_wp2_with (first | (at_builtin; refine wpList_appN wc rfl (.tmp 176) (.tmp 178) _ rfl w0.heap.size 3 i1 _ 1 8 Try.underlying28 HI1.out hy0 hy1 hy2 rfl (by decide) (.slice An9 pr.ins cn9) pr.ins (intCells pr.ns) rfl HI9.out 1 [.int .i64 (k : Int)] rfl rfl rfl (by intro u hu; simp at hu; subst hu; rfl) (by omega) (by decide) hB8 ?_) | fail)
                          intro v9 w9 hown9 hb9 hg9 hv9
                          obtain ⟨D9, d9, rfl, _⟩ := Arr.own2 hown9
                          have O9 := hide hown9
                          have G9 := hide hg9
                          have V9 := hide hv9
                          have KC9 := hide (HK9.out.grown hg9 (by intro e; exact HGN.out _ e.symm rfl))
                          have IC9 := hide (own_grown HO9.out hg9 (fun b hb e => HD9.out b hb e))
                          have kf10 := KC9.out.frozen 10
                          have kc10 := KC9.out.cell 10
                          simp at kc10
                          clear hown9 hb9 hg9 hv9
                          go_wp2_with fail
                          go_meet
                          have hne9 : ∀ b, (Value.slice D9 (pr.ins + 1) d9).ownBlock = some b → b ≠ gc ∧ (Value.slice Ai9 M.length ci9).ownBlock ≠ some b := fun b hb => by
                            rcases V9.out with h1 | h1
                            · rw [h1] at hb; exact ⟨HGN.out b hb, fun e => HD9.out b e hb⟩
                            · rw [h1] at hb; injection hb with hb
                              exact ⟨by omega, fun e => by have := (HO9.out.lt b e).2; omega⟩
                          have EV9 : Ev gc ib3 wc (rws (.slice Ai9 M.length ci9) (.slice D9 (pr.ins + 1) d9)) (w9.setCell ⟨gc, 10, none⟩ (.slice D9 (pr.ins + 1) d9)) := by
                            refine (Ev.of_row (w := wc) (w1 := w9) (row := (Value.slice An9 pr.ins cn9).ownBlock) ⟨G9.out.os, G9.out.tape, G9.out.output, G9.out.size, G9.out.block⟩ gc (fun b hb _ => by rw [← HR9.out]; exact mem_rws.2 (.inr hb)) (fun b hb => ?_)).trans (Ev.of_cell (only_setCell (p := ⟨gc, 10, none⟩) (World.grownBy.refl w9 (some gc)) (Or.inl rfl) _) _)
                            rcases mem_rws.1 hb with h2 | h2
                            · exact .inl (by rw [← HR9.out]; exact mem_rws.2 (.inl h2))
                            · rcases V9.out with h1 | h1
                              · exact .inl (by rw [← HR9.out]; exact mem_rws.2 (.inr (h1 ▸ h2)))
                              · rw [h1] at h2; injection h2 with h2; exact .inr (by omega)
                          refine ⟨rfl, _, ⟨c1', fun e => ?_, ⟨⟨hins, HPO.out.1.2⟩, fun b hb => Nat.lt_of_lt_of_le (c3'.2.1 b hb) EV9.size, c3'.2.2.ev (EV9.more _)⟩, most9, depth9, Ai9, ci9, D9, d9, HM9.out, ?_, own_setFar IC9.out HGI.out _, ?_, fun b hb e => (hne9 b e).2 hb, rfl⟩, J8.out.ev EV9 (fun _ h => h), E8.out.trans EV9, ?_⟩
                          · rcases mem_rws.1 e with h1 | h1
                            · exact HGI.out _ h1 rfl
                            · exact (hne9 _ h1).1 rfl
                          · have := KC9.out.set_ 10 (.slice D9 (pr.ins + 1) d9)
                            simpa using this
                          · have e1 : intCells (pr.ns ++ [(k : Int)]) = intCells pr.ns ++ [.int .i64 (k : Int)] := by simp [intCells]
                            show World.ownsRow _ _ _ _ _ _ (intCells (pr.ns ++ [(k : Int)]))
                            rw [e1]
                            exact own_setFar O9.out (fun b hb => (hne9 b hb).1) _
                          · have h10 := KC9.out.set_ 10 (.slice D9 (pr.ins + 1) d9)
                            simp at h10
                            rw [Vw_of h10, ← VM8.out, Vw_of HK9.out]
                        case rest =>
                          obtain ⟨rfl, ib4, hc10, hj10, hv10, hw10⟩ := hcut
                          have VM10 := hide hw10
                          have HNL : Hid (pr.ns.length = pr.ins) := by
                            have h1 := HI9.out.1
                            simp [intCells] at h1
                            exact h1
                          clear hw10
                          have E10 := hide hv10
                          have hM1 : 1 ≤ M.length := by omega
                          have hGm : (en - k) * G ≤ 9 * G := Nat.mul_le_mul_right G (by omega)
                          have HGM := hide hGm
                          have LC := hide (HLIN.out ([g2] ++ pr.tb) k wc g2 M ib4 t3 k en T3.out.1 T3.out.2.1 T3.out.2.2 hkn HK0.out HEN.out (show g2 ∈ [g2] ++ pr.tb from List.mem_cons_self) hc10 hj10 (HB.out.trans (HC.out.below hv10 HB.out.size)) (Nat.le_trans HB.out.size hg2) hM1 (by omega) HBA.out.1 HBA.out.2)
                          clear hc10 hj10 hv10 hGm J8 C8 E8 HM9 HK9 HO9 HI9 HD9 HR9 HGI HGN k10 HLIN HK0 HEN
                          go_wp2_with fail
                          refine (LC.out).mono ?_
                          rintro e w11 ⟨rfl, Jf, ib5, jb5, Jm, vj5, hG11, hJst, hc11, hj11, hv11, _, hw11, hm11'⟩
                          rw [SP3.out, VM10.out] at hw11 hm11'
                          have VM11 := hide hw11
                          have HJM := hide hm11'
                          clear hw11 hm11'
                          have G11 := hide hG11
                          have J11 := hide hj11
                          have E11 := hide (Ev.inner E10.out hv11 hg2)
                          have hJf := hG11.lo
                          obtain ⟨d1', d2', d3', most11, depth11, Ai11, ci11, An11, cn11, hm11, hk11, ho11, hi11, hd11, hr11⟩ := hc11
                          have HM11 := hide hm11
                          have HK11 := hide hk11
                          have HO11 := hide ho11
                          have HD11 := hide hd11
                          have HR11 := hide hr11
                          have hgi : ∀ b, (Value.slice Ai11 Jf.length ci11).ownBlock = some b → b ≠ gc := fun b hb e => d2' (by rw [← hr11, ← e]; exact mem_rws.2 (.inl hb))
                          have hgn : ∀ b, (Value.slice An11 (pr.ins + 1) cn11).ownBlock = some b → b ≠ gc := fun b hb e => d2' (by rw [← hr11, ← e]; exact mem_rws.2 (.inr hb))
                          have HGI := hide hgi
                          have HGN := hide hgn
                          have HI11 : Hid (w11.ownsRow w0.heap.size 3 1 (.slice An11 (pr.ins + 1) cn11) (pr.ins + 1) (intCells (pr.ns ++ [(k : Int)]))) := hi11
                          obtain ⟨A', c', e', hcn, _, har, _⟩ := Arr.own2 HI11.out
                          cases e'
                          obtain ⟨gn, e2, _⟩ := har.2 (by omega)
                          subst e2
                          have k10 := hk11.cell 10
                          have kf10 := hk11.frozen 10
                          simp at k10
                          have HX : Hid (∀ w' : World, w' = w11.setCell ⟨gc, 10, none⟩ (.slice (some ⟨gn, 0, none⟩) pr.ins cn11) → CSt w' w0.heap.size gc { pr with tb := [g2] ++ pr.tb } Jf ib5 ∧ Ev gc ib5 w11 ib5 w' ∧ Vw w' gc Jf = (lin (pr.ns ++ [(k : Int)]) qSn q4).1) := by
                            rintro w' rfl
                            refine ⟨⟨d1', d2', ⟨HPO.out.1, fun b hb => (by have := d3'.2.1 b hb; simpa [World.setCell] using this), d3'.2.2.ev (Ev.of_cell (only_setCell (p := ⟨gc, 10, none⟩) (World.grownBy.refl w11 (some gc)) (Or.inl rfl) _) _)⟩, most11, depth11, Ai11, ci11, some ⟨gn, 0, none⟩, cn11, HM11.out, ?_, own_setFar HO11.out HGI.out _, ?_, HD11.out, HR11.out⟩, Ev.of_cell (only_setCell (p := ⟨gc, 10, none⟩) (World.grownBy.refl w11 (some gc)) (Or.inl rfl) _) _, ?_⟩
                            · have := HK11.out.set_ 10 (.slice (some ⟨gn, 0, none⟩) pr.ins cn11)
                              simpa using this
                            · have e1 : intCells pr.ns = (intCells (pr.ns ++ [(k : Int)])).take (pr.ins * 1) := by
                                have h1 := HNL.out
                                simp [intCells, ← h1]
                              show World.ownsRow _ _ _ _ _ _ (intCells pr.ns)
                              rw [e1]
                              exact own_setFar (own_take HI11.out (Nat.succ_pos _) (Nat.le_succ _)) (fun b hb => HGN.out b (by simpa [Value.ownBlock] using hb)) _
                            · have h10 := HK11.out.set_ 10 (.slice (some ⟨gn, 0, none⟩) pr.ins cn11)
                              simp at h10
                              rw [Vw_of h10, ← VM11.out, Vw_of HK11.out]
                          clear hG11 hk11 ho11 hi11 hd11 hr11 hgi hgn hj11 hv11 har LC
                          go_upto_region 20 with fail
                          go_cut [10] from 185 to 198 (fun s10 wx => s10 = .pointer (some ⟨g2, 0, none⟩) ∧ CSt wx w0.heap.size gc { pr with tb := [g2] ++ pr.tb } Jf ib5 ∧ ScJ wx w0.heap.size gc ib5 g2 { t3 with vj := vj5 } jb5 Jm (IsJ Jf) ∧ Ev gc ib w ib5 wx ∧ Vw wx gc Jf = (lin (pr.ns ++ [(k : Int)]) qSn q4).1)
                          case first =>
                            have zw : IntKind.i64.wrap ((pr.ins : Nat) : Int) = (pr.ins : Int) := IntWalk.i64_in _ (by omega)
                            have zc : (pr.ins : Int) ≤ (cn11 : Int) := by omega
                            have z0 : (0 : Int) ≤ (pr.ins : Int) := by omega
                            go_still_tail 14, (by kernel_rfl)
                            change wpList _ _ _ _ _ w11.drew
                            go_wp2_with fail
                            go_meet
                            have HXX := HX.out _ rfl
                            exact ⟨rfl, HXX.1.kept (Below.refl _ _).drew, (J11.out.ev HXX.2.1 (fun _ h => h)).below (Below.refl _ _).drew, (E11.out.trans HXX.2.1).trans (Ev.of_below (Below.refl _ _).drew _ _), by rw [Vw_below (Below.refl _ _).drew HXX.1.lt]; exact HXX.2.2⟩
                          case rest =>
                            obtain ⟨rfl, hc12, hj12, hv12, hw12⟩ := hcut
                            have VM12 := hide hw12
                            clear hw12
                            have C12 := hide hc12
                            have J12 := hide hj12
                            have E12 := hide hv12
                            obtain ⟨Aj, cj, hvj⟩ := hj12.sl
                            have hvj' : vj5 = .slice Aj Jm.length cj := hvj
                            have j7 := hj12.k.cell 7
                            simp at j7
                            rw [hvj'] at j7
                            have JN := hide hj12.jn
                            have HVJ := hide hvj'
                            have hJm : (Jm.length : Int) ≤ 9223372036854775807 := by
                              obtain ⟨_, _, e5, h1, h2, _⟩ := Arr.own2 hj12.ow
                              unfold maxLen at h2
                              omega
                            clear hc12 hj12 hv12 hvj hvj' k10 kf10 HX HI11 HO11 HK11 HM11 HD11 HR11 HGI HGN hcn J11 E11
                            go_wp2_with fail
                            go_loopw [204] (fun iv wr => ∃ (i : Nat) (K : List It), iv = .int .i64 i ∧ i ≤ Jm.length ∧ Gro pr.n pr.inl Y' Jf K 0 ∧ CSt wr w0.heap.size gc { pr with tb := [g2] ++ pr.tb } K ib5 ∧ Ev gc ib5 wc ib5 wr ∧ (Jm.drop i).foldl (fun g j => patchF g j.toNat) (Vw wr gc K) = qP) (fun iv _ => Jm.length - (intOf iv).toNat)
                            case atStart => exact ⟨0, Jf, rfl, Nat.zero_le _, Gro.refl _ _ _ _, C12.out, Ev.refl _ _ _, by rw [VM12.out, List.drop_zero, HJM.out]; exact HQP.out.symm⟩
                            case round =>
                              obtain ⟨i3, K, rfl, hi3, hG13, hc13, hv13, hw13⟩ := hrel
                              have VM13 := hide hw13
                              clear hw13
                              have G13 := hide hG13
                              have C13 := hide hc13
                              have V13 := hide hv13
                              have J13 := hide (J12.out.ev hv13 (fun _ h => h))
                              have hKl : Jf.length ≤ K.length := hG13.lo
                              clear hG13 hc13 hv13 j7
                              by_cases hil : i3 < Jm.length
                              · have z : decide ((i3 : Int) < (Jm.length : Int)) = true := decide_eq_true (by omega)
                                have z' : decide (i3 < Jm.length) = true := decide_eq_true hil
                                have HIL := hide hil
                                have how : wr.ownsRow w0.heap.size 3 1 vj5 Jm.length (intCells Jm) := J13.out.ow
                                rw [HVJ.out] at how
                                obtain ⟨Aj', cj', e5, _, har⟩ := Arr.of_own how
                                cases e5
                                obtain ⟨jb, jo, e9, _, cc0⟩ := (InRow.of_arr har).int i3 hil
                                obtain ⟨jn, hjn, hij⟩ := JN.out _ (List.getElem_mem hil)
                                obtain ⟨hjl, hjc⟩ := (hij.gro G13.out).at_
                                rw [hjn] at cc0
                                subst e9
                                obtain ⟨g, hgi, hgg, cc, fc, ⟨ck, k8⟩, PT0⟩ := C13.out.item (j := jn) (i := 1) hjl (by omega)
                                obtain ⟨vv, hvv⟩ : ∃ vv, (itC K[jn])[1]? = some vv := ⟨_, rfl⟩
                                rw [hvv] at cc
                                have hjzi : (jn : Int) < (K.length : Nat) := by omega
                                have hjz0 : (0 : Int) ≤ (jn : Int) := by omega
                                have PT := hide (PT0 (.int .i64 (K.length : Nat)) { K[jn] with arg := (K.length : Nat) } rfl ⟨rfl, rfl⟩)
                                have PV : Hid ((Jm.drop (i3 + 1)).foldl (fun g j => patchF g j.toNat) (Vw (wr.setCell ⟨g, jn * 7 + 1, none⟩ (.int .i64 (K.length : Nat))) gc (K.set jn { K[jn] with arg := (K.length : Nat) })) = qP) := by
                                  show _ = _
                                  rw [Vw_patch hgg hjl rfl, ← VM13.out, List.drop_eq_getElem_cons hil, List.foldl_cons, hjn, Int.toNat_natCast]
                                obtain ⟨NL, hNL⟩ : ∃ NL, NL = K.length := ⟨_, rfl⟩
                                rw [← hNL] at k8 hjzi PT PV
                                have GS : Hid (Gro pr.n pr.inl Y' K (K.set jn { K[jn] with arg := (NL : Nat) }) 0) := Gro.arg hjl hjc (Nat.le_of_eq hNL)
                                have K8 : Hid (∀ u, (wr.drew.setCell ⟨g, jn * 7 + 1, none⟩ u).cell? ⟨gc, 8, none⟩ = some (.slice (some ⟨g, 0, none⟩) NL ck)) := fun u => (World.cell?_setCell_other _ _ _ _ (fun e => hgg (congrArg Addr.block e))).trans k8
                                clear hNL hvv PT0 how har hjn hjc hij
                                go_wp2_with fail
                                go_region_held3 (fun w' => w'.cell? ⟨gc, 8, none⟩ = some (.slice (some ⟨g, 0, none⟩) NL ck)) (first | exact k8 | exact K8.out _) (fail)
                                all_goals
                                  go_wp2_with fail
                                all_goals
                                  go_roundw
                                  case rel => exact ⟨i3 + 1, _, by go_num, HIL.out, (G13.out.trans GS.out).mono (Nat.le_refl _), PT.out.1.kept (Below.refl _ _).drew, V13.out.trans (PT.out.2.trans (Ev.of_below (Below.refl _ _).drew _ _)), PV.out⟩
                                  case measure => have := HIL.out; simp [intOf]; omega
                              · have z : decide ((i3 : Int) < (Jm.length : Int)) = false := decide_eq_false (by omega)
                                have z' : decide (i3 < Jm.length) = false := decide_eq_false hil
                                obtain ⟨_, _, _, most13, depth13, Ai13, ci13, An13, cn13, hm13, hk13, _, _, _, _⟩ := C13.out
                                have VMF : Hid (Vw wr gc K = qP) := by
                                  show _ = _
                                  rw [← VM13.out, List.drop_of_length_le (by omega)]
                                  rfl
                                have HBD : Hid (t3.ba = q4.d) := by
                                  have h1 := congrArg Sp.ba SP3.out
                                  rw [HQS.out] at h1
                                  exact h1
                                have k9 := hk13.cell 9
                                have kf9 := hk13.frozen 9
                                simp at k9
                                have j6 := J13.out.k.cell 6
                                simp at j6
                                clear hk13
                                go_wp2_with fail
                                go_end0
                                have hwb : wrap64 (t3.ba + 1) = t3.ba + 1 := IntWalk.wrap64_in _ (by have h1 := HBA.out.1; have h2 := hMl; omega)
                                have CD := C13.out.depth (wrap64 (t3.ba + 1)) (by have h1 := HBA.out.1; rw [hwb]; omega)
                                have HE := (E12.out.trans V13.out).trans CD.2
                                have h11 := G11.out.hi
                                have h13 := G13.out.hi
                                have h9g := HGM.out
                                have GF : Gro pr.n pr.inl Y I K 1 := (G7.out.comp (G11.out.trans G13.out) (Y3 := Y) (c := 1) (by omega))
                                have hbM2 := Bg.gro B7.out hbM (G11.out.trans G13.out)
                                exact ⟨rfl, K, GF, hbM2, ⟨ib5, CD.1.shrink (T := pr.tb) (fun b hb => List.mem_cons_of_mem _ hb), HE⟩, by rw [C13.out.depth_vw, VMF.out, HBD.out]; exact HRF.out.symm⟩
end Go.Proofs.Ytcfjbaanahgpoaa
