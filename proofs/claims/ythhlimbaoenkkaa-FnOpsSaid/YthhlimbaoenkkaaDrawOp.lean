import Derived.Test.YthhlimbaoenkkaaDis
import Derived.Test.YthhlimbaoenkkaaDraw
namespace Go.Proofs.Ythhlimbaoenkkaa
open Go.RowKit
set_option maxRecDepth 100000
/-- What the draw of an instruction makes. -/
def opDrawn (x : Int × Int) : Prop := opOkF x.1 x.2 = true
theorem drawnOk (c a : Int) (hc : 0 ≤ c ∧ c < 18) (ha : (opW c = 0 → a = 0) ∧ (0 < opW c → if opS c then -100 ≤ a ∧ a < 100 else 0 ≤ a ∧ a < 200)) : opOkF c a = true := by
  have hb : btw c 0 17 = true := by simp [btw]; omega
  rcases opCases c with ⟨hW, hS⟩ | ⟨hW, hS⟩ | ⟨hW, hS⟩ | ⟨hW, hS⟩ | ⟨hW, hS⟩
  all_goals rw [opOk_in hb hW hS]
  all_goals simp only [hW, hS] at ha
  all_goals simp [btw] at ha ⊢
  all_goals omega
set_option maxHeartbeats 1000000 in
theorem s_l07Op (B g : Nat) (w : World) (hc : Cur B w g) :
    Calls Try.prog 65 #[.pointer (some ⟨g, 0, none⟩)] w fun e w' => (∃ c a : Int, e = .returned (.agg #[.int .i64 c, .int .i64 a]) ∧ opOkF c a = true) ∧ Cur B w' g ∧ w.grownBy w' (some g) := by
  have hg := hc.1
  have hgl := hc.lt
  have HC := hide hc
  clear hc
  go_enter Try.func65, Try.ntmps65
  go_wp2_with fail
  refine (s_l01Below B g _ _ (HC.out.below ((Below.refl _ _).alloc (Nat.le_refl _) _))).mono ?_
  rintro e w1 ⟨⟨c, rfl, hc0, hc1, _⟩, hC1, hg1⟩
  have hc1 := hc1 (by omega)
  have hz1 := hg1.size
  simp at hz1
  have K1 : Blk w1 w.heap.size 28 #[.int .i64 0, .int .i64 0] := (Blk.new w _ _).grown hg1 (by simp; omega)
  have HK1 := hide K1
  have HG1 := hide (only_trans (only_alloc (World.grownBy.refl w (some g)) (.cells #[.int .i64 0, .int .i64 0] 28)) hg1)
  have HC1 := hide hC1
  clear K1 hC1 hg1 HC
  rcases opCases c with ⟨hW, hS⟩ | ⟨hW, hS⟩ | ⟨hW, hS⟩ | ⟨hW, hS⟩ | ⟨hW, hS⟩
  all_goals have HD := hide (drawnOk c)
  all_goals rw [hW, hS] at HD
  rotate_right
  · have KA := HK1.out.alloc (.cells #[.int .i64 c, .int .i64 0] 28)
    have k0 := KA.cell 0
    have k1 := KA.cell 1
    have kf0 := KA.frozen 0
    have kf1 := KA.frozen 1
    simp at k0 k1
    clear KA
    go_wp2_with (go_at_call 113; refine (s_width _ _).mono ?_; rintro e w' ⟨rfl, rfl⟩)
    refine bodyPost_ret (v := .agg #[.int .i64 c, .int .i64 0]) (by simp [results, Try.results65, go_sem, k0, k1]) rfl ⟨⟨c, 0, rfl, HD.out 0 ⟨hc0, hc1⟩ ⟨fun _ => rfl, fun h => by omega⟩⟩, ?_, ?_⟩
    · repeat (first | exact HC1.out | refine Cur.setCell ?_ (by show w.heap.size ≠ g; omega) (by show B ≤ w.heap.size; omega) _ | refine Cur.alloc ?_ _)
    · repeat (first | exact HG1.out | refine only_setCell ?_ (.inr (Nat.le_refl _)) _ | refine only_alloc ?_ _)
  · obtain ⟨hlt, -⟩ : w.heap.size < w1.heap.size ∧ True := ⟨by omega, trivial⟩
    have hgne : w1.heap.size ≠ g := by have := HC1.out.lt; omega
    have hgne0 : w.heap.size ≠ g := by omega
    go_wp2_with (first | (go_at_call 113; refine (s_width _ _).mono ?_; rintro e w' ⟨rfl, rfl⟩) | fail)
    refine (s_l01Below B g _ _ (HC1.out.alloc _)).mono ?_
    rintro e w2 ⟨⟨y, rfl, hy0, hy1, _⟩, hC2, hg2⟩
    have hy1 := hy1 (by omega)
    have hz2 := hg2.size
    simp at hz2
    have K2 := (HK1.out.alloc (.cells #[.int .i64 c, .int .i64 0] 28)).grown hg2 (by simp; omega)
    have X2 := (Blk.new w1 28 #[.int .i64 c, .int .i64 0]).grown hg2 (by simp; omega)
    have k0 := K2.cell 0
    have k1 := K2.cell 1
    have kf0 := K2.frozen 0
    have kf1 := K2.frozen 1
    have x0 := X2.cell 0
    have x1 := X2.cell 1
    have xf0 := X2.frozen 0
    have xf1 := X2.frozen 1
    simp at k0 k1 x0 x1
    have hne1 : ¬ w.heap.size = w1.heap.size := by omega
    have hne2 : ¬ w1.heap.size = w.heap.size := by omega
    have HC2 := hide hC2
    have HG2 := hide (only_trans (only_alloc HG1.out (.cells #[.int .i64 c, .int .i64 0] 28)) hg2)
    clear K2 X2 hC2 hg2
    go_wp2
    refine bodyPost_ret (v := .agg #[.int .i64 c, .int .i64 (y - 100)]) (by simp [results, Try.results65, go_sem, k0, k1, x0, x1, hne1, hne2]) rfl ⟨⟨c, (y - 100), rfl, HD.out _ ⟨hc0, hc1⟩ ⟨fun h => by omega, fun _ => ⟨by omega, by omega⟩⟩⟩, ?_, ?_⟩
    · repeat (first | exact HC2.out | refine Cur.setCell ?_ (by first | exact hgne | exact hgne0) (by simp; omega) _)
    · repeat (first | exact HG2.out | refine only_setCell ?_ (.inr (by first | omega | (simp; done) | (simp; omega))) _)
  · obtain ⟨hlt, -⟩ : w.heap.size < w1.heap.size ∧ True := ⟨by omega, trivial⟩
    have hgne : w1.heap.size ≠ g := by have := HC1.out.lt; omega
    have hgne0 : w.heap.size ≠ g := by omega
    go_wp2_with (first | (go_at_call 113; refine (s_width _ _).mono ?_; rintro e w' ⟨rfl, rfl⟩) | fail)
    refine (s_l01Below B g _ _ (HC1.out.alloc _)).mono ?_
    rintro e w2 ⟨⟨y, rfl, hy0, hy1, _⟩, hC2, hg2⟩
    have hy1 := hy1 (by omega)
    have hz2 := hg2.size
    simp at hz2
    have K2 := (HK1.out.alloc (.cells #[.int .i64 c, .int .i64 0] 28)).grown hg2 (by simp; omega)
    have X2 := (Blk.new w1 28 #[.int .i64 c, .int .i64 0]).grown hg2 (by simp; omega)
    have k0 := K2.cell 0
    have k1 := K2.cell 1
    have kf0 := K2.frozen 0
    have kf1 := K2.frozen 1
    have x0 := X2.cell 0
    have x1 := X2.cell 1
    have xf0 := X2.frozen 0
    have xf1 := X2.frozen 1
    simp at k0 k1 x0 x1
    have hne1 : ¬ w.heap.size = w1.heap.size := by omega
    have hne2 : ¬ w1.heap.size = w.heap.size := by omega
    have HC2 := hide hC2
    have HG2 := hide (only_trans (only_alloc HG1.out (.cells #[.int .i64 c, .int .i64 0] 28)) hg2)
    clear K2 X2 hC2 hg2
    go_wp2
    refine bodyPost_ret (v := .agg #[.int .i64 c, .int .i64 (y - 100)]) (by simp [results, Try.results65, go_sem, k0, k1, x0, x1, hne1, hne2]) rfl ⟨⟨c, (y - 100), rfl, HD.out _ ⟨hc0, hc1⟩ ⟨fun h => by omega, fun _ => ⟨by omega, by omega⟩⟩⟩, ?_, ?_⟩
    · repeat (first | exact HC2.out | refine Cur.setCell ?_ (by first | exact hgne | exact hgne0) (by simp; omega) _)
    · repeat (first | exact HG2.out | refine only_setCell ?_ (.inr (by first | omega | (simp; done) | (simp; omega))) _)
  · obtain ⟨hlt, -⟩ : w.heap.size < w1.heap.size ∧ True := ⟨by omega, trivial⟩
    have hgne : w1.heap.size ≠ g := by have := HC1.out.lt; omega
    have hgne0 : w.heap.size ≠ g := by omega
    go_wp2_with (first | (go_at_call 113; refine (s_width _ _).mono ?_; rintro e w' ⟨rfl, rfl⟩) | fail)
    refine (s_l01Below B g _ _ (HC1.out.alloc _)).mono ?_
    rintro e w2 ⟨⟨y, rfl, hy0, hy1, _⟩, hC2, hg2⟩
    have hy1 := hy1 (by omega)
    have hz2 := hg2.size
    simp at hz2
    have K2 := (HK1.out.alloc (.cells #[.int .i64 c, .int .i64 0] 28)).grown hg2 (by simp; omega)
    have X2 := (Blk.new w1 28 #[.int .i64 c, .int .i64 0]).grown hg2 (by simp; omega)
    have k0 := K2.cell 0
    have k1 := K2.cell 1
    have kf0 := K2.frozen 0
    have kf1 := K2.frozen 1
    have x0 := X2.cell 0
    have x1 := X2.cell 1
    have xf0 := X2.frozen 0
    have xf1 := X2.frozen 1
    simp at k0 k1 x0 x1
    have hne1 : ¬ w.heap.size = w1.heap.size := by omega
    have hne2 : ¬ w1.heap.size = w.heap.size := by omega
    have HC2 := hide hC2
    have HG2 := hide (only_trans (only_alloc HG1.out (.cells #[.int .i64 c, .int .i64 0] 28)) hg2)
    clear K2 X2 hC2 hg2
    go_wp2
    refine bodyPost_ret (v := .agg #[.int .i64 c, .int .i64 y]) (by simp [results, Try.results65, go_sem, k0, k1, x0, x1, hne1, hne2]) rfl ⟨⟨c, y, rfl, HD.out _ ⟨hc0, hc1⟩ ⟨fun h => by omega, fun _ => ⟨by omega, by omega⟩⟩⟩, ?_, ?_⟩
    · repeat (first | exact HC2.out | refine Cur.setCell ?_ (by first | exact hgne | exact hgne0) (by simp; omega) _)
    · repeat (first | exact HG2.out | refine only_setCell ?_ (.inr (by first | omega | (simp; done) | (simp; omega))) _)
  · obtain ⟨hlt, -⟩ : w.heap.size < w1.heap.size ∧ True := ⟨by omega, trivial⟩
    have hgne : w1.heap.size ≠ g := by have := HC1.out.lt; omega
    have hgne0 : w.heap.size ≠ g := by omega
    go_wp2_with (first | (go_at_call 113; refine (s_width _ _).mono ?_; rintro e w' ⟨rfl, rfl⟩) | fail)
    refine (s_l01Below B g _ _ (HC1.out.alloc _)).mono ?_
    rintro e w2 ⟨⟨y, rfl, hy0, hy1, _⟩, hC2, hg2⟩
    have hy1 := hy1 (by omega)
    have hz2 := hg2.size
    simp at hz2
    have K2 := (HK1.out.alloc (.cells #[.int .i64 c, .int .i64 0] 28)).grown hg2 (by simp; omega)
    have X2 := (Blk.new w1 28 #[.int .i64 c, .int .i64 0]).grown hg2 (by simp; omega)
    have k0 := K2.cell 0
    have k1 := K2.cell 1
    have kf0 := K2.frozen 0
    have kf1 := K2.frozen 1
    have x0 := X2.cell 0
    have x1 := X2.cell 1
    have xf0 := X2.frozen 0
    have xf1 := X2.frozen 1
    simp at k0 k1 x0 x1
    have hne1 : ¬ w.heap.size = w1.heap.size := by omega
    have hne2 : ¬ w1.heap.size = w.heap.size := by omega
    have HC2 := hide hC2
    have HG2 := hide (only_trans (only_alloc HG1.out (.cells #[.int .i64 c, .int .i64 0] 28)) hg2)
    clear K2 X2 hC2 hg2
    go_wp2
    refine bodyPost_ret (v := .agg #[.int .i64 c, .int .i64 y]) (by simp [results, Try.results65, go_sem, k0, k1, x0, x1, hne1, hne2]) rfl ⟨⟨c, y, rfl, HD.out _ ⟨hc0, hc1⟩ ⟨fun h => by omega, fun _ => ⟨by omega, by omega⟩⟩⟩, ?_, ?_⟩
    · repeat (first | exact HC2.out | refine Cur.setCell ?_ (by first | exact hgne | exact hgne0) (by simp; omega) _)
    · repeat (first | exact HG2.out | refine only_setCell ?_ (.inr (by first | omega | (simp; done) | (simp; omega))) _)
end Go.Proofs.Ythhlimbaoenkkaa
