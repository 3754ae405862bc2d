import Derived.Test.YtcfjbaanahgpoaaIn
import Derived.Test.YtcfjbaanahgpoaaTm
namespace Go.Proofs.Ytcfjbaanahgpoaa
open Go.RowKit

/-- The bytes of a draw lie readable below block B. -/
def CodeAt (B : Nat) (w : World) (A : Option Addr) (n : Nat) : Prop :=
  n ≤ maxLen ∧ (0 < n → ∃ (ad : Addr) (f : Nat → Int), A = some ad ∧ ad.block < B ∧ ∀ i, i < n → w.cell? (ad.add i) = some (.int .u8 (f i)) ∧ 0 ≤ f i ∧ f i ≤ 255)
theorem CodeAt.keep {B : Nat} {w w' : World} {A : Option Addr} {n : Nat} (h : CodeAt B w A n) (hk : ∀ p : Addr, p.block < B → w'.cell? p = w.cell? p) : CodeAt B w' A n :=
  ⟨h.1, fun hn => by
    obtain ⟨ad, f, e, hb, hc⟩ := h.2 hn
    exact ⟨ad, f, e, hb, fun i hi => ⟨(hk _ (by rw [block_of_add]; exact hb)).trans (hc i hi).1, (hc i hi).2⟩⟩⟩

theorem CodeAt.of_in {w : World} {A : Option Addr} {n c : Nat} (h1 : n ≤ c) (h2 : c ≤ maxLen) (h : 0 < n → ∃ (ad : Addr) (f : Nat → Int), A = some ad ∧ ∀ i, i < n → w.cell? (ad.add i) = some (.int .u8 (f i)) ∧ 0 ≤ f i ∧ f i ≤ 255) : CodeAt w.heap.size w A n := by
  refine ⟨by omega, fun hn => ?_⟩
  obtain ⟨ad, f, rfl, hc⟩ := h hn
  refine ⟨ad, f, rfl, ?_, hc⟩
  have h0 := (hc 0 hn).1
  rcases Nat.lt_or_ge ad.block w.heap.size with hlt | hge
  · exact hlt
  · exfalso
    have : w.heap[(ad.add 0).block]? = none := by rw [block_of_add]; exact Array.getElem?_eq_none hge
    simp [World.cell?, this] at h0
/-- Block g, from B on, is the cursor of a draw. -/
def Cur (B : Nat) (w : World) (g : Nat) : Prop :=
  B ≤ g ∧ ∃ (A : Option Addr) (n c i : Nat) (h : Int), Blk w g 98 #[.slice A n c, .int .i64 i, .int .i64 h] ∧ i ≤ n ∧ CodeAt B w A n
theorem Cur.lt {B : Nat} {w : World} {g : Nat} (h : Cur B w g) : g < w.heap.size := by obtain ⟨_, _, _, _, _, _, hb, _⟩ := h; exact hb.lt
theorem Cur.below {B : Nat} {w w' : World} {g : Nat} (h : Cur B w g) (hb : Below w.heap.size w w') : Cur B w' g := by
  have hl := h.lt
  obtain ⟨hg, A, n, c, i, x, hk, hi, hc⟩ := h
  exact ⟨hg, A, n, c, i, x, hk.below hb hl, hi, hc.keep fun p hp => hb.cell (by omega)⟩
theorem Cur.grown {B : Nat} {w w' : World} {g r : Nat} (h : Cur B w g) (hb : w.grownBy w' (some r)) (hr : B ≤ r) (hne : g ≠ r) : Cur B w' g := by
  have hl := h.lt
  obtain ⟨hg, A, n, c, i, x, hk, hi, hc⟩ := h
  exact ⟨hg, A, n, c, i, x, hk.grown hb (by simpa using hne), hi, hc.keep fun p hp => World.cell?_of_block (hb.block p.block (by omega) (by simp; omega))⟩

theorem Cur.setCell {B : Nat} {w : World} {g : Nat} (h : Cur B w g) {p : Addr} (hp : p.block ≠ g) (hB : B ≤ p.block) (u : Value) : Cur B (w.setCell p u) g :=
  h.grown (r := p.block) (only_setCell (World.grownBy.refl w _) (.inl rfl) u) hB (Ne.symm hp)
theorem Cur.alloc {B : Nat} {w : World} {g : Nat} (h : Cur B w g) (o : Obj) : Cur B (w.alloc o) g := h.below ((Below.refl _ _).alloc (Nat.le_refl _) o)
theorem Cur.drewN {B : Nat} {w : World} {g : Nat} (h : Cur B w g) (n : Nat) : Cur B (w.drewN n) g := h
set_option maxHeartbeats 400000 in
theorem s_l01New (A : Option Addr) (n c : Nat) (w : World) (hc : CodeAt w.heap.size w A n) :
    Calls Try.prog 31 #[.slice A n c] w fun e w' => e = .returned (.pointer (some ⟨w.heap.size, 0, none⟩)) ∧ Cur w.heap.size w' w.heap.size ∧ Below w.heap.size w w' := by
  have hn := hc.1
  unfold maxLen at hn
  have HC := hide hc
  clear hc
  go_enter Try.func31, Try.ntmps31
  go_wp2
  go_loop [3, 4] (fun h i => ∃ (k : Nat) (x : Int), k ≤ n ∧ (k : Int) ≤ 4000 ∧ i = .int .i64 k ∧ h = .int .i64 x) (fun _ i => n - (intOf i).toNat)
  case atStart => exact ⟨0, _, by omega, by omega, rfl, rfl⟩
  case round =>
    obtain ⟨k, x, hk, hk2, rfl, rfl⟩ := hrel
    by_cases h1 : k < n ∧ (k : Int) < 4000
    · obtain ⟨h1, h2⟩ := h1
      obtain ⟨ad, f, rfl, _, hcell⟩ := HC.out.2 (by omega)
      obtain ⟨hcell, _, _⟩ := hcell k h1
      go_wp2
      go_round
      case rel => exact ⟨k + 1, _, by omega, by omega, by go_num, rfl⟩
      case measure => simp [intOf]; omega
    · by_cases h2 : k < n
      · have h3 : ¬ (k : Int) < 4000 := by omega
        have hd := decide_eq_false h3
        clear h1 h3 hk2
        go_wp2
        go_ret
        refine ⟨rfl, ⟨Nat.le_refl _, A, n, c, 0, x, Blk.new _ _ _, Nat.zero_le _, HC.out.keep fun p hp => World.cell?_alloc_lt w _ p hp⟩, (Below.refl _ _).alloc (Nat.le_refl _) _⟩
      · have h3 : n ≤ k := by omega
        clear h1 h2
        go_wp2
        go_ret
        refine ⟨rfl, ⟨Nat.le_refl _, A, n, c, 0, x, Blk.new _ _ _, Nat.zero_le _, HC.out.keep fun p hp => World.cell?_alloc_lt w _ p hp⟩, (Below.refl _ _).alloc (Nat.le_refl _) _⟩
theorem CodeAt.setCell {B : Nat} {w : World} {A : Option Addr} {n : Nat} (h : CodeAt B w A n) {q : Addr} (hq : B ≤ q.block) (u : Value) : CodeAt B (w.setCell q u) A n :=
  h.keep fun p hp => World.cell?_setCell_other _ _ _ _ (fun e => by subst e; omega)
theorem CodeAt.drewN {B : Nat} {w : World} {A : Option Addr} {n : Nat} (h : CodeAt B w A n) (k : Nat) : CodeAt B (w.drewN k) A n := h
theorem and_255_range (x : Int) : 0 ≤ bits .and .i64 x 255 ∧ bits .and .i64 x 255 ≤ 255 := by rw [and_255]; omega
set_option maxHeartbeats 400000 in
theorem s_l01Byte (B g : Nat) (w : World) (hc : Cur B w g) :
    Calls Try.prog 84 #[.pointer (some ⟨g, 0, none⟩)] w fun e w' => (∃ x : Int, e = .returned (.int .i64 x) ∧ 0 ≤ x ∧ x ≤ 255) ∧ Cur B w' g ∧ w.grownBy w' (some g) := by
  obtain ⟨hB, A, n, c, i, h, hk, hi, hcode⟩ := hc
  have hn := hcode.1
  unfold maxLen at hn
  have c0 := hk.cell 0
  have c1 := hk.cell 1
  have c2 := hk.cell 2
  have f0 := hk.frozen 0
  have f1 := hk.frozen 1
  have f2 := hk.frozen 2
  simp at c0 c1 c2
  have HK := hide hk
  have HC := hide hcode
  clear hk hcode
  by_cases hlt : i < n
  · obtain ⟨ad, f, rfl, hadB, hcell⟩ := HC.out.2 (by omega)
    obtain ⟨hcell, hf0, hf1⟩ := hcell i hlt
    have hblk : ad.add i ≠ ⟨g, 2, none⟩ := fun e => by
      have := congrArg Addr.block e
      rw [block_of_add] at this
      simp at this
      omega
    have hcell2 : ∀ v, (w.setCell ⟨g, 2, none⟩ v).cell? (ad.add i) = some (.int .u8 (f i)) := fun v => (World.cell?_setCell_other _ _ _ _ (Ne.symm hblk)).trans hcell
    go_enter Try.func84, Try.ntmps84
    go_wp2
    generalize wrap64 (wrap64 (h * 6364136223846793005) + 1442695040888963407) = h'
    go_quiet (fail)
    go_wp2
    generalize bits BinOp.and IntKind.i64 (bits BinOp.xor IntKind.i64 (h' / 8589934592) (h' / 35184372088832)) 255 = b
    go_quiet (fail)
    go_wp2
    go_quiet (fail)
    go_wp2
    go_ret
    refine ⟨⟨_, rfl, and_255_range _⟩, ⟨hB, some ad, n, c, i + 1, h', ?_, by omega, ?_⟩, ?_⟩
    · exact (HK.out.set_ 2 (.int .i64 h')).set_ 1 (.int .i64 ((i : Int) + 1))
    · exact (HC.out.setCell (q := ⟨g, 2, none⟩) hB (.int .i64 h')).setCell (q := ⟨g, 1, none⟩) hB (.int .i64 ((i : Int) + 1))
    · repeat (first | exact World.grownBy.refl w _ | refine only_setCell ?_ (.inl rfl) _ | refine only_drewN ?_ _)
  · have hd : decide (i < n) = false := by simp; omega
    clear hlt
    go_enter Try.func84, Try.ntmps84
    go_wp2
    generalize wrap64 (wrap64 (h * 6364136223846793005) + 1442695040888963407) = h'
    go_quiet (fail)
    go_wp2
    generalize bits BinOp.xor IntKind.i64 (h' / 8589934592) (h' / 35184372088832) = b
    go_quiet (fail)
    go_wp2
    go_ret
    refine ⟨⟨_, rfl, and_255_range _⟩, ⟨hB, A, n, c, i, h', ?_, hi, ?_⟩, ?_⟩
    · exact HK.out.set_ 2 (.int .i64 h')
    · exact HC.out.setCell (q := ⟨g, 2, none⟩) hB (.int .i64 h')
    · repeat (first | exact World.grownBy.refl w _ | refine only_setCell ?_ (.inl rfl) _ | refine only_drewN ?_ _)
theorem emod_pos_range (x n : Int) (h : 0 < n) : 0 ≤ x % n ∧ x % n < n := ⟨Int.emod_nonneg _ (by omega), Int.emod_lt_of_pos _ h⟩
set_option maxHeartbeats 400000 in
theorem s_l01Below (B g : Nat) (n : Int) (w : World) (hc : Cur B w g) :
    Calls Try.prog 54 #[.pointer (some ⟨g, 0, none⟩), .int .i64 n] w fun e w' => (∃ x : Int, e = .returned (.int .i64 x) ∧ 0 ≤ x ∧ (0 < n → x < n) ∧ (n ≤ 0 → x = 0)) ∧ Cur B w' g ∧ w.grownBy w' (some g) := by
  by_cases h0 : n ≤ 0
  · go_enter Try.func54, Try.ntmps54
    go_wp2
    go_ret
    exact ⟨⟨0, rfl, by omega, fun h => by omega, fun _ => rfl⟩, hc, World.grownBy.refl w _⟩
  · by_cases h1 : n ≤ 256
    · go_enter Try.func54, Try.ntmps54
      go_wp2_with fail
      refine (s_l01Byte B g _ hc).mono ?_
      rintro e w1 ⟨⟨x, rfl, hx0, hx1⟩, hc1, hg1⟩
      have hr := emod_pos_range x n (by omega)
      go_wp2
      go_ret
      exact ⟨⟨_, rfl, hr.1, fun _ => hr.2, fun h => by omega⟩, hc1, hg1⟩
    · go_enter Try.func54, Try.ntmps54
      go_wp2_with fail
      refine (s_l01Byte B g _ hc).mono ?_
      rintro e w1 ⟨⟨x1, rfl, hx0, hx1⟩, hc1, hg1⟩
      go_wp2_with fail
      refine (s_l01Byte B g _ hc1).mono ?_
      rintro e w2 ⟨⟨x2, rfl, hy0, hy1⟩, hc2, hg2⟩
      go_wp2_with fail
      refine (s_l01Byte B g _ hc2).mono ?_
      rintro e w3 ⟨⟨x3, rfl, hz0, hz1⟩, hc3, hg3⟩
      go_wp2_with fail
      refine (s_l01Byte B g _ hc3).mono ?_
      rintro e w4 ⟨⟨x4, rfl, hv0, hv1⟩, hc4, hg4⟩
      have hr := emod_pos_range (x1 * 16777216 + x2 * 65536 + x3 * 256 + x4) n (by omega)
      go_wp2
      go_ret
      exact ⟨⟨_, rfl, hr.1, fun _ => hr.2, fun h => by omega⟩, hc4, only_trans (only_trans (only_trans hg1 hg2) hg3) hg4⟩
set_option maxHeartbeats 400000 in
theorem s_l01Once (B g : Nat) (n : Int) (w : World) (hc : Cur B w g) :
    Calls Try.prog 55 #[.pointer (some ⟨g, 0, none⟩), .int .i64 n] w fun e w' => (∃ b : Bool, e = .returned (.bool b)) ∧ Cur B w' g ∧ w.grownBy w' (some g) := by
  go_enter Try.func55, Try.ntmps55
  go_wp2_with fail
  refine (s_l01Below B g _ _ hc).mono ?_
  rintro e w1 ⟨⟨x, rfl, _, _, _⟩, hc1, hg1⟩
  go_wp2
  go_ret
  exact ⟨⟨_, rfl⟩, hc1, hg1⟩
set_option maxHeartbeats 400000 in
theorem s_l01PickInt (B g : Nat) (ad : Addr) (n c : Nat) (f : Nat → Int) (hn : 0 < n ∧ n ≤ maxLen) (hne : ad.block ≠ g) (w : World) (hc : Cur B w g) (hlt : ad.block < w.heap.size)
    (hcell : ∀ i, i < n → w.cell? (ad.add i) = some (.int .i64 (f i))) :
    Calls Try.prog 71 #[.pointer (some ⟨g, 0, none⟩), .slice (some ad) n c] w fun e w' => (∃ k, k < n ∧ e = .returned (.int .i64 (f k))) ∧ Cur B w' g ∧ w.grownBy w' (some g) := by
  obtain ⟨hn0, hn1⟩ := hn
  unfold maxLen at hn1
  have HC := hide hcell
  clear hcell
  go_enter Try.func71, Try.ntmps71
  go_wp2_with fail
  refine (s_l01Below B g _ _ hc).mono ?_
  rintro e w1 ⟨⟨x, rfl, hx0, hx1, _⟩, hc1, hg1⟩
  have hx1 := hx1 (by omega)
  obtain ⟨k, rfl⟩ := Int.eq_ofNat_of_zero_le hx0
  have hk : k < n := by omega
  have hcell : w1.cell? (ad.add k) = some (.int .i64 (f k)) := (World.cell?_of_block (hg1.block (ad.add k).block (by rw [block_of_add]; exact hlt) (by rw [block_of_add]; simpa using hne))).trans (HC.out k hk)
  go_wp2
  go_ret
  exact ⟨⟨k, hk, rfl⟩, hc1, hg1⟩
def numbers10 : List Int := [-1, 0, 127, 128, 16383, 16384, 1000000000, 1000000001, 9223372036854775807, -9223372036854775808]
theorem getD_range {l : List Int} {a b : Int} (h : ∀ x ∈ l, a ≤ x ∧ x ≤ b) (h0 : a ≤ 0 ∧ 0 ≤ b) (k : Nat) : a ≤ l.getD k 0 ∧ l.getD k 0 ≤ b := by
  rw [List.getD_eq_getElem?_getD]
  rcases Nat.lt_or_ge k l.length with hk | hk
  · rw [List.getElem?_eq_getElem hk]; exact h _ (List.getElem_mem _)
  · rw [List.getElem?_eq_none hk]; exact h0
theorem numbers10_range (k : Nat) : -9223372036854775808 ≤ numbers10.getD k 0 ∧ numbers10.getD k 0 ≤ 9223372036854775807 := by
  refine getD_range ?_ (by omega) k
  intro x hx
  simp [numbers10] at hx
  omega
end Go.Proofs.Ytcfjbaanahgpoaa
