import Derived.Test.YtcfjbaanahgpoaaCoEF
namespace Go.Proofs.Ytcfjbaanahgpoaa
open Go Go.RowKit Go.Maps
set_option maxRecDepth 100000
set_option linter.unusedVariables false
set_option linter.unusedSimpArgs false
/-- Blocks of the maps. -/
structure MC (wM : World) (gc zb ob fb : Nat) : Prop where
  z : zb ≠ gc
  o : ob ≠ gc
  f : fb ≠ gc
  zo : zb ≠ ob
  zf : zb ≠ fb
  of : ob ≠ fb
  mz : wM.heap.size ≤ zb
  mo : wM.heap.size ≤ ob
  mf : wM.heap.size ≤ fb
/-- What may turn of a scope: its block and its row of jumps. -/
structure JP (w : World) (B gc : Nat) (ib : List Nat) (gs : Nat) (s : Scd) (jb : List Nat) (J : List Int) (N : Nat → Prop) : Prop where
  k : Blk w gs 114 #[.int .i64 s.fu, .int .i64 s.en, .slice s.Al s.nl s.cl, .int .i64 s.ar, .int .i64 s.fi, .slice s.Ac s.nc s.cc, .int .i64 s.ba, s.vj]
  ne : gs ≠ gc
  ni : gs ∉ jb ++ ib
  sl : ∃ Aj cj, s.vj = .slice Aj J.length cj
  ow : w.ownsRow B 3 1 s.vj J.length (intCells J)
  ob : s.vj.ownBlock.toList = jb
  jd : ∀ b ∈ jb, b ≠ gc ∧ b ∉ ib
  jn : ∀ j ∈ J, ∃ c : Nat, j = (c : Int) ∧ N c
/-- The rows of a scope that do not turn. -/
structure SR (w : World) (gc : Nat) (R : List Nat) (s : Scd) : Prop where
  l1 : SB s.ar s.fi s.nl s.nc
  l2 : s.nc ≤ 100000
  rl : RowG w gc R s.Al s.nl (strCells s.xs)
  rc : RowG w gc R s.Ac s.nc (intCells s.ch)
section
variable {w w' w1 w2 wM : World} {B gc gs m b : Nat} {N N' Kz Kz' : Nat → Prop} {ib ib' ib1 ib2 jb jb' jb2 R R1 : List Nat} {s t : Scd} {J J2 : List Int} {pr : Prm} {I K : List It} {p : Addr} {vj vj2 : Value} {zb ob fb : Nat} {E E2 : Ls}
theorem SR.ev (h : SR w gc R s) (k : Ev gc R w R1 w') : SR w' gc R1 s := ⟨h.l1, h.l2, h.rl.ev k, h.rc.ev k⟩
theorem ScJ.jp (h : ScJ w B gc ib gs s jb J N) : JP w B gc ib gs s jb J N := ⟨h.k, h.ne, h.ni, h.sl, h.ow, h.ob, h.jd, h.jn⟩
theorem ScJ.sr (h : ScJ w B gc ib gs s jb J N) : SR w gc (gs :: (jb ++ ib)) s := ⟨h.l1, h.l2, h.rl, h.rc⟩
theorem JP.scj (h : JP w B gc ib gs s jb J N) (r : SR w gc (gs :: (jb ++ ib)) s) : ScJ w B gc ib gs s jb J N := ⟨h.k, h.ne, h.ni, r.l1, r.l2, r.rl, r.rc, h.sl, h.ow, h.ob, h.jd, h.jn⟩
theorem JP.jlt (h : JP w B gc ib gs s jb J N) : ∀ b ∈ jb, B ≤ b ∧ b < w.heap.size := fun b hb => h.ow.lt b (by rw [← h.ob] at hb; exact Option.mem_toList.1 hb)
theorem JP.ev (h : JP w B gc ib gs s jb J N) (k : Ev gc ib w ib' w') (hN : ∀ c, N c → N' c) : JP w' B gc ib' gs s jb J N' := by
  have hgi : gs ∉ ib := fun e => h.ni (List.mem_append_right _ e)
  have hgj : gs ∉ jb := fun e => h.ni (List.mem_append_left _ e)
  have hj : ∀ b ∈ jb, b < w.heap.size := fun b hb => (h.jlt b hb).2
  exact ⟨k.blk h.k h.ne hgi, h.ne, fun e => (List.mem_append.1 e).elim hgj (k.ne h.k.lt hgi), h.sl,
    own_same h.ow (fun b hb => by
      have hb' : b ∈ jb := by rw [← h.ob]; exact Option.mem_toList.2 hb
      exact k.block b (hj b hb') (h.jd b hb').1 (h.jd b hb').2), h.ob, fun b hb => ⟨(h.jd b hb).1, k.ne (hj b hb) (h.jd b hb).2⟩, fun j hj' => by obtain ⟨c, h1, h2⟩ := h.jn j hj'; exact ⟨c, h1, hN c h2⟩⟩
theorem JP.grownM (h : JP w B gc ib gs s jb J N) (hg : w.grownBy w' (some b)) (hb : b ∉ gs :: (jb ++ ib)) : JP w' B gc ib gs s jb J N :=
  ⟨h.k.grown hg (fun e => hb (by injection e with e; rw [← e]; exact List.mem_cons_self)), h.ne, h.ni, h.sl,
    own_grown h.ow hg (fun g e e' => hb (by injection e' with e'; rw [e']; exact List.mem_cons_of_mem _ (List.mem_append_left _ (by rw [← h.ob]; exact Option.mem_toList.2 e)))), h.ob, h.jd, h.jn⟩
theorem CSt.grownM (h : CSt w B gc pr I ib) (hg : w.grownBy w' (some b)) (h1 : b ≠ gc) (h2 : b ∉ gs :: (jb ++ ib)) (h3 : b ∈ pr.tb) : CSt w' B gc pr I ib := by
  refine h.same (fun c hc => ?_) hg.size (fun c hc hn => hg.block c hc (fun e => hn (by injection e with e; rw [e]; exact h3)))
  · 
    rcases hc with rfl | hc
    · exact hg.block _ h.lt (by simpa using fun e => h1 e.symm)
    · exact hg.block _ (h.rows c hc).2 (fun e => h2 (by injection e with e; rw [← e]; exact List.mem_cons_of_mem _ (List.mem_append_right _ hc)))
theorem Ev.grownM (h : Ev gc R wM R1 w) (hg : w.grownBy w' (some b)) (hb : wM.heap.size ≤ b) : Ev gc R wM R1 w' :=
  ⟨hg.os.trans h.os, hg.tape.trans h.tape, hg.output.trans h.output, Nat.le_trans h.size hg.size, fun c hc h1 h2 => (hg.block c (Nat.lt_of_lt_of_le hc h.size) (by simp; omega)).trans (h.block c hc h1 h2), h.row⟩
/-- The parameters in a walk over lines: what may turn besides. -/
def Prm.at_ (pr : Prm) (gs : Nat) (jb : List Nat) (zb ob fb : Nat) : Prm := { pr with tb := gs :: zb :: ob :: fb :: (jb ++ pr.tb) }
/-- The state of a walk over lines. -/
structure LSt (wM w : World) (B gc : Nat) (pr : Prm) (gs : Nat) (s : Scd) (ib : List Nat) (zb ob fb m : Nat) (Kz : Nat → Prop) (I : List It) (ib' jb : List Nat) (J : List Int) (vj : Value) (E : Ls) : Prop where
  c : CSt w B gc (pr.at_ gs jb zb ob fb) I ib'
  j : JP w B gc ib' gs { s with vj := vj } jb J (IsJ I)
  ev : Ev gc (gs :: ib) wM (gs :: (jb ++ ib')) w
  z : MapJ w zb m (IsJ I) Kz E.z
  o : MapJ w ob m (IsJ I) (fun _ => False) E.o
  f : MapP w fb m (I.length + 1) E.f
  nz : zb ∉ gs :: (jb ++ ib')
  no : ob ∉ gs :: (jb ++ ib')
  nf : fb ∉ gs :: (jb ++ ib')
theorem LSt.scj (h : LSt wM w B gc pr gs s ib zb ob fb m Kz I ib1 jb J vj E) (r : SR wM gc (gs :: ib) s) : ScJ w B gc ib1 gs { s with vj := vj } jb J (IsJ I) := by
  have hr := r.ev h.ev
  exact h.j.scj ⟨hr.l1, hr.l2, hr.rl, hr.rc⟩
theorem LSt.stepJ (h : LSt wM w B gc pr gs s ib zb ob fb m Kz I ib1 jb J vj E) (mc : MC wM gc zb ob fb) (hc : CSt w' B gc (pr.at_ gs jb2 zb ob fb) K ib2) (hj : JP w' B gc ib2 gs { s with vj := vj2 } jb2 J2 (IsJ K)) (hv : Ev gc (gs :: (jb ++ ib1)) w (gs :: (jb2 ++ ib2)) w') (hl : I.length ≤ K.length) (hP : ∀ c, IsJ I c → IsJ K c) : LSt wM w' B gc pr gs s ib zb ob fb m Kz K ib2 jb2 J2 vj2 E :=
  ⟨hc, hj, h.ev.trans hv, (h.z.ev hv mc.z h.nz).mono (Nat.le_refl _) hP (fun _ h => h), (h.o.ev hv mc.o h.no).mono (Nat.le_refl _) hP (fun _ h => h), (h.f.ev hv mc.f h.nf).mono (Nat.le_refl _) (by omega), hv.ne h.z.lt h.nz, hv.ne h.o.lt h.no, hv.ne h.f.lt h.nf⟩
theorem LSt.step (h : LSt wM w B gc pr gs s ib zb ob fb m Kz I ib1 jb J vj E) (mc : MC wM gc zb ob fb) (hc : CSt w' B gc (pr.at_ gs jb zb ob fb) K ib2) (hv : Ev gc ib1 w ib2 w') (hl : I.length ≤ K.length) (hP : ∀ c, IsJ I c → IsJ K c) : LSt wM w' B gc pr gs s ib zb ob fb m Kz K ib2 jb J vj E :=
  h.stepJ mc hc (h.j.ev hv hP) hv.big hl hP
theorem LSt.below (h : LSt wM w B gc pr gs s ib zb ob fb m Kz I ib1 jb J vj E) (mc : MC wM gc zb ob fb) (hb : Below w.heap.size w w') : LSt wM w' B gc pr gs s ib zb ob fb m Kz I ib1 jb J vj E :=
  h.step mc (h.c.kept hb) (Ev.of_below hb _ _) (Nat.le_refl _) (fun _ h => h)
theorem LSt.mono {m' : Nat} (h : LSt wM w B gc pr gs s ib zb ob fb m Kz I ib1 jb J vj E) (hm : m ≤ m') (hK : ∀ c, Kz' c → Kz c) : LSt wM w B gc pr gs s ib zb ob fb m' Kz' I ib1 jb J vj E :=
  ⟨h.c, h.j, h.ev, h.z.mono hm (fun _ h => h) hK, h.o.mono hm (fun _ h => h) (fun _ h => h), h.f.mono hm (Nat.le_refl _), h.nz, h.no, h.nf⟩
theorem LSt.putF (h : LSt wM w B gc pr gs s ib zb ob fb m Kz I ib1 jb J vj E) (mc : MC wM gc zb ob fb) (hg : w.grownBy w' (some fb)) (hm : MapP w' fb (m + 1) (I.length + 1) E2.f) (hez : E2.z = E.z) (heo : E2.o = E.o) : LSt wM w' B gc pr gs s ib zb ob fb (m + 1) Kz I ib1 jb J vj E2 :=
  ⟨h.c.grownM hg mc.f h.nf (by simp [Prm.at_]), h.j.grownM hg h.nf, h.ev.grownM hg mc.mf, by rw [hez]; exact (h.z.kept hg (by simpa using mc.zf)).mono (by omega) (fun _ h => h) (fun _ h => h), by rw [heo]; exact (h.o.kept hg (by simpa using mc.of)).mono (by omega) (fun _ h => h) (fun _ h => h), hm, h.nz, h.no, h.nf⟩
theorem LSt.as (h : LSt wM w B gc pr gs s ib zb ob fb m Kz I ib1 jb J vj E) (hez : E2.z = E.z) (heo : E2.o = E.o) (hef : E2.f = E.f) : LSt wM w B gc pr gs s ib zb ob fb m Kz I ib1 jb J vj E2 :=
  ⟨h.c, h.j, h.ev, by rw [hez]; exact h.z, by rw [heo]; exact h.o, by rw [hef]; exact h.f, h.nz, h.no, h.nf⟩
theorem isJ_new {y : It} (hy : y.code = 10 ∨ y.code = 11) : ∀ c, (IsJ I c ∨ c = I.length) → IsJ (I ++ [y]) c := fun c hc => by
  rcases hc with hc | rfl
  · exact hc.app
  · exact IsJ.last hy
theorem LSt.putZ2 {y : It} (h : LSt wM w B gc pr gs s ib zb ob fb m Kz I ib1 jb J vj E) (mc : MC wM gc zb ob fb) (hy : y.code = 10 ∨ y.code = 11) (hg : w.grownBy w1 (some zb)) (hm : MapJ w1 zb (m + 1) (fun c => IsJ I c ∨ c = I.length) Kz' E2.z) (heo : E2.o = E.o) (hef : E2.f = E.f) (hc : CSt w' B gc (pr.at_ gs jb zb ob fb) (I ++ [y]) ib2) (hv : Ev gc ib1 w1 ib2 w') : LSt wM w' B gc pr gs s ib zb ob fb (m + 1) Kz' (I ++ [y]) ib2 jb J vj E2 := by
  have e : (I ++ [y]).length = I.length + 1 := by simp
  have ho := h.o.kept hg (by simpa using fun e => mc.zo e.symm)
  have hf := h.f.kept hg (by simpa using fun e => mc.zf e.symm)
  have hb := hv.big (gs := gs) (jb := jb)
  exact ⟨hc, (h.j.grownM hg h.nz).ev hv (fun _ h => h.app), (h.ev.grownM hg mc.mz).trans hb, (hm.ev hb mc.z h.nz).mono (Nat.le_refl _) (isJ_new hy) (fun _ h => h), by rw [heo]; exact (ho.ev hb mc.o h.no).mono (by omega) (fun _ h => h.app) (fun _ h => h), by rw [hef]; exact (hf.ev hb mc.f h.nf).mono (by omega) (by omega), hb.ne hm.lt h.nz, hb.ne ho.lt h.no, hb.ne hf.lt h.nf⟩
theorem LSt.putO2 {y : It} (h : LSt wM w B gc pr gs s ib zb ob fb m Kz I ib1 jb J vj E) (mc : MC wM gc zb ob fb) (hy : y.code = 10 ∨ y.code = 11) (hg : w.grownBy w1 (some ob)) (hm : MapJ w1 ob (m + 1) (fun c => IsJ I c ∨ c = I.length) Kz' E2.o) (hez : E2.z = E.z) (hef : E2.f = E.f) (hc : CSt w' B gc (pr.at_ gs jb zb ob fb) (I ++ [y]) ib2) (hv : Ev gc ib1 w1 ib2 w') : LSt wM w' B gc pr gs s ib zb ob fb (m + 1) Kz (I ++ [y]) ib2 jb J vj E2 := by
  have e : (I ++ [y]).length = I.length + 1 := by simp
  have hz := h.z.kept hg (by simpa using mc.zo)
  have hf := h.f.kept hg (by simpa using fun e => mc.of e.symm)
  have hb := hv.big (gs := gs) (jb := jb)
  exact ⟨hc, (h.j.grownM hg h.no).ev hv (fun _ h => h.app), (h.ev.grownM hg mc.mo).trans hb, by rw [hez]; exact (hz.ev hb mc.z h.nz).mono (by omega) (fun _ h => h.app) (fun _ h => h), (hm.ev hb mc.o h.no).mono (Nat.le_refl _) (isJ_new hy) (fun _ h => h.elim), by rw [hef]; exact (hf.ev hb mc.f h.nf).mono (by omega) (by omega), hb.ne hz.lt h.nz, hb.ne hm.lt h.no, hb.ne hf.lt h.nf⟩
theorem LSt.delZ (h : LSt wM w B gc pr gs s ib zb ob fb m Kz I ib1 jb J vj E) (mc : MC wM gc zb ob fb) (hg : w.grownBy w' (some zb)) (hm : MapJ w' zb m (IsJ I) Kz' E2.z) (heo : E2.o = E.o) (hef : E2.f = E.f) : LSt wM w' B gc pr gs s ib zb ob fb m Kz' I ib1 jb J vj E2 :=
  ⟨h.c.grownM hg mc.z h.nz (by simp [Prm.at_]), h.j.grownM hg h.nz, h.ev.grownM hg mc.mz, hm, by rw [heo]; exact h.o.kept hg (by simpa using fun e => mc.zo e.symm), by rw [hef]; exact h.f.kept hg (by simpa using fun e => mc.zf e.symm), h.nz, h.no, h.nf⟩
theorem LSt.scpM (h : LSt wM w B gc pr gs s ib zb ob fb m Kz I ib1 jb J vj E) (r : SR wM gc (gs :: ib) s) (hg : w.grownBy w' (some b)) (hb : wM.heap.size ≤ b) (hn : b ∉ gs :: (jb ++ ib1)) : ScP w' gc ib1 gs { s with vj := vj } := by
  have hr := r.ev (h.ev.grownM hg hb)
  exact ((h.j.grownM hg hn).scj ⟨hr.l1, hr.l2, hr.rl, hr.rc⟩).scp
end
theorem one_lnk {Q : It → Prop} {F : Sg → Sg} {w w' : World} {B gc tb : Nat} {t : TypeId} {a b c d : Value} {pr : Prm} {I : List It} {ib : List Nat} (hk : Blk w tb t #[a, b, c, d]) (h1 : tb ≠ gc) (h2 : tb ∉ ib) (h : OneX Q F w B gc pr I ib w') : w'.cell? ⟨tb, 1, none⟩ = some b := by
  obtain ⟨x, ib', _, _, hv, _⟩ := h
  have := (hv.blk hk h1 h2).cell 1
  simpa using this
end Go.Proofs.Ytcfjbaanahgpoaa
