import Derived.Test.YthhlimbaoenkkaaFoldI
namespace Go.Proofs.Ythhlimbaoenkkaa
open Go Go.RowKit
set_option maxRecDepth 100000
theorem own_base {w : World} {b b' e size n : Nat} {v : Value} {xs : List Value} (h : w.ownsRow b e size v n xs) (hb : b' ≤ b) : w.ownsRow b' e size v n xs := by
  refine ⟨h.1, ?_⟩
  rcases h.2 with hn | ⟨g, cap, cur, rfl, hg, rest⟩
  · exact .inl hn
  · exact .inr ⟨g, cap, cur, rfl, Nat.le_trans hb hg, rest⟩
def foldEx (l : List Tk) : List Tk := if exprOkF l = true then foldF l l.length 0 else []
theorem exprOk_end {l : List Tk} (h : exprOkF l = true) : endL l 0 1 = l.length := by
  unfold exprOkF at h
  simp only [Bool.and_eq_true, decide_eq_true_eq] at h
  obtain ⟨⟨_, h1⟩, h2⟩ := h
  unfold exprEndF at h2
  rw [if_pos (by omega)] at h2
  exact h2
theorem foldEx_len (l : List Tk) : (foldEx l).length ≤ l.length := by
  unfold foldEx
  split
  · rename_i h
    have := foldF_len l l.length 0 (by omega) (by rw [exprOk_end h]; omega)
    rw [exprOk_end h] at this
    omega
  · exact Nat.zero_le _
theorem foldEx_20 (l : List Tk) : (foldEx l).length ≤ 20 := by
  unfold foldEx
  split
  · rename_i h
    have := foldF_len l l.length 0 (by omega) (by rw [exprOk_end h]; omega)
    rw [exprOk_end h] at this
    unfold exprOkF at h
    simp at h
    omega
  · exact Nat.zero_le _
set_option maxHeartbeats 1000000 in
theorem i_foldExpr (A : Option Addr) (n c : Nat) (l : List Tk) (w : World) (hn : n ≤ 1048576) (hl : l.length = n) (h : InRow w A n 3 (tokCells l)) (hs : ∀ t ∈ l, t.2.2.size ≤ maxLen) :
    Calls Try.prog 29 #[.slice A n c] w fun e w' => (∃ v, e = .returned v ∧ w'.ownsRow w.heap.size 105 3 v (foldEx l).length (tokCells (foldEx l))) ∧ Below w.heap.size w w' := by
  have H := hide h
  have HL := hide hl
  have HS := hide hs
  clear h hl hs
  cases hok : exprOkF l
  · have HF : Hid (foldEx l = []) := by show _ = _; unfold foldEx; rw [hok]; rfl
    have HK := hide hok
    clear hok
    go_enter Try.func29, Try.ntmps29
    go_wp2_with fail
    refine (i_exprOk A n c l _ hn HL.out H.out HS.out).mono ?_
    rintro e w1 ⟨rfl, hb1⟩
    rw [HK.out]
    go_wp2_with fail
    go_ret
    exact ⟨⟨_, rfl, by rw [HF.out]; exact World.ownsRow_nil _ _ _ _⟩, hb1⟩
  · have HF : Hid (foldEx l = foldF l l.length 0) := by show _ = _; unfold foldEx; rw [hok]; rfl
    have HE : Hid (0 ≤ endL l 0 1) := by show 0 ≤ _; rw [exprOk_end hok]; omega
    have HK := hide hok
    clear hok
    go_enter Try.func29, Try.ntmps29
    go_wp2_with fail
    refine (i_exprOk A n c l _ hn HL.out H.out HS.out).mono ?_
    rintro e w1 ⟨rfl, hb1⟩
    rw [HK.out]
    have B1 := hide hb1
    have R1 := hide (H.out.below hb1)
    have hc := i_fold n c l hn HL.out HS.out l.length 0 A w1 (by omega) HE.out R1.out
    have HC := hide hc
    clear hb1 hc
    go_wp2_with fail
    refine HC.out.mono ?_
    rintro e w2 ⟨⟨v, rfl, ho⟩, hb2⟩
    have HO := hide ho
    have B2 := hide (B1.out.trans (hb2.mono B1.out.size))
    clear ho hb2
    go_wp2_with fail
    go_ret
    exact ⟨⟨_, rfl, by rw [HF.out]; exact own_base HO.out B1.out.size⟩, B2.out⟩
set_option maxHeartbeats 1000000 in
theorem s_foldExpr (A : Option Addr) (n c : Nat) (l : List Tk) (w : World) (hn : n ≤ 1048576) (hl : l.length = n) (h : InRow w A n 3 (tokCells l)) (hs : ∀ t ∈ l, t.2.2.size ≤ maxLen) :
    Calls Try.prog 27 #[.slice A n c] w fun e w' => (∃ v, e = .returned v ∧ w'.ownsRow w.heap.size 105 3 v (foldEx l).length (tokCells (foldEx l))) ∧ Below w.heap.size w w' := by
  have H := hide h
  have HL := hide hl
  have HS := hide hs
  clear h hl hs
  cases hok : exprOkF l
  · have HF : Hid (foldEx l = []) := by show _ = _; unfold foldEx; rw [hok]; rfl
    have HK := hide hok
    clear hok
    go_enter Try.func27, Try.ntmps27
    go_wp2_with fail
    refine (s_exprOk A n c l _ hn HL.out H.out HS.out).mono ?_
    rintro e w1 ⟨rfl, hb1⟩
    rw [HK.out]
    go_wp2_with fail
    go_ret
    exact ⟨⟨_, rfl, by rw [HF.out]; exact World.ownsRow_lit w1 #[] 0 hb1.size (Nat.zero_le _) rfl⟩, hb1.alloc hb1.size _⟩
  · have HF : Hid (foldEx l = foldF l l.length 0) := by show _ = _; unfold foldEx; rw [hok]; rfl
    have HE : Hid (0 ≤ endL l 0 1) := by show 0 ≤ _; rw [exprOk_end hok]; omega
    have HK := hide hok
    clear hok
    go_enter Try.func27, Try.ntmps27
    go_wp2_with fail
    refine (s_exprOk A n c l _ hn HL.out H.out HS.out).mono ?_
    rintro e w1 ⟨rfl, hb1⟩
    rw [HK.out]
    have B1 := hide hb1
    have R1 := hide (H.out.below hb1)
    have hc := s_fold n c l hn HL.out HS.out l.length 0 A w1 (by omega) HE.out R1.out
    have HC := hide hc
    clear hb1 hc
    go_wp2_with fail
    refine HC.out.mono ?_
    rintro e w2 ⟨⟨v, rfl, ho⟩, hb2⟩
    have HO := hide ho
    have B2 := hide (B1.out.trans (hb2.mono B1.out.size))
    clear ho hb2
    go_wp2_with fail
    go_ret
    exact ⟨⟨_, rfl, by rw [HF.out]; exact own_base HO.out B1.out.size⟩, B2.out⟩
end Go.Proofs.Ythhlimbaoenkkaa
