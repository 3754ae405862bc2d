import Derived.Test.YtcfjbaanahgpoaaOpnd
namespace Go.Proofs.Ytcfjbaanahgpoaa
open Go.RowKit
set_option maxRecDepth 100000
/-! Plain facts: where operands end, and the folded expression. -/
theorem endL_add (l : List Tk) : ∀ (m p a b : Nat), l.length - p ≤ m → p ≤ l.length → 0 ≤ endL l p (a + b) → ∃ e : Nat, endL l p a = e ∧ p + (if a = 0 then 0 else 1) ≤ e ∧ e ≤ l.length ∧ endL l p (a + b) = endL l e b := by
  intro m
  induction m with
  | zero =>
    intro p a b hm hp h
    have : l.length ≤ p := by omega
    by_cases ha : a = 0
    · subst ha; exact ⟨p, endL_zero l p, by simp, hp, by simp⟩
    · rw [endL_out l p (a + b) (by omega) this] at h; omega
  | succ m ih =>
    intro p a b hm hp h
    by_cases ha : a = 0
    · subst ha; exact ⟨p, endL_zero l p, by simp, hp, by simp⟩
    · by_cases hlt : p < l.length
      · cases hok : tkOk l[p]
        · rw [endL_bad l p (a + b) (by omega) hlt hok] at h; omega
        · have e1 := endL_step l p (a + b) (by omega) hlt hok
          have e2 := endL_step l p a (by omega) hlt hok
          rw [show a + b - 1 + (tkAr l[p]).toNat = (a - 1 + (tkAr l[p]).toNat) + b by omega] at e1
          rw [e1] at h
          obtain ⟨e, h1, h2, h3, h4⟩ := ih (p + 1) _ b (by omega) (by omega) h
          exact ⟨e, by rw [e2, h1], by rw [if_neg ha]; split at h2 <;> omega, h3, by rw [e1, h4]⟩
      · rw [endL_out l p (a + b) (by omega) (by omega)] at h; omega
theorem exprEndF_nat (l : List Tk) (p : Nat) : exprEndF l (p : Int) = endL l p 1 := by
  unfold exprEndF
  by_cases h : p < l.length
  · rw [if_pos (by omega), Int.toNat_natCast]
  · rw [if_neg (by omega), endL_out l p 1 (by omega) (by omega)]
/-- One operand after another. -/
theorem opsL_cons (l : List Tk) (k q : Nat) (hq : q ≤ l.length) (h : 0 ≤ endL l q (k + 1)) : ∃ e : Nat, endL l q 1 = e ∧ q < e ∧ e ≤ l.length ∧ endL l q (k + 1) = endL l e k ∧ opsL l (k + 1) q = (q : Int) :: opsL l k e := by
  obtain ⟨e, h1, h2, h3, h4⟩ := endL_add l _ q 1 k (Nat.le_refl _) hq (by rw [Nat.add_comm]; exact h)
  simp at h2
  refine ⟨e, h1, h2, h3, by rw [← h4, Nat.add_comm], ?_⟩
  rw [opsL, exprEndF_nat, h1]
theorem good_at (l : List Tk) (p : Nat) (h : 0 ≤ endL l p 1) : p < l.length ∧ tkOk (tkAt l p) = true ∧ endL l p 1 = endL l (p + 1) (tkAr (tkAt l p)).toNat := by
  have hlt : p < l.length := by
    rcases Nat.lt_or_ge p l.length with h1 | h1
    · exact h1
    · rw [endL_out l p 1 (by omega) h1] at h; omega
  have ht : tkAt l p = l[p] := by unfold tkAt; rw [List.getD_eq_getElem?_getD, List.getElem?_eq_getElem hlt]; rfl
  rw [ht]
  cases hok : tkOk l[p]
  · rw [endL_bad l p 1 (by omega) hlt hok] at h; omega
  · exact ⟨hlt, rfl, by rw [endL_step l p 1 (by omega) hlt hok]; simp⟩
theorem operandsF_nat (l : List Tk) (p : Nat) (h : 0 ≤ endL l p 1) : operandsF l (p : Int) = opsL l (tkAr (tkAt l p)).toNat ((p + 1 : Nat) : Int) := by
  unfold operandsF
  rw [exprEndF_nat, if_neg (by omega), Int.toNat_natCast]; rfl
theorem opsL_good (l : List Tk) : ∀ (k q : Nat), q ≤ l.length → 0 ≤ endL l q k → ∀ o ∈ opsL l k (q : Int), ∃ j : Nat, o = j ∧ q ≤ j ∧ j < l.length ∧ 0 ≤ endL l j 1 := by
  intro k
  induction k with
  | zero => intro q _ _ o ho; simp [opsL] at ho
  | succ k ih =>
    intro q hq h o ho
    obtain ⟨e, h1, h2, h3, h4, h5⟩ := opsL_cons l k q hq h
    rw [h5] at ho
    rcases List.mem_cons.1 ho with rfl | ho
    · exact ⟨q, rfl, Nat.le_refl _, by omega, by omega⟩
    · obtain ⟨j, r1, r2, r3, r4⟩ := ih e h3 (by omega) o ho
      exact ⟨j, r1, by omega, r3, r4⟩
/-- An operator and two numbers become one number, if it fits. -/
def foldC (out : List Tk) : List Tk :=
  match out with
  | [t, a, b] => if (2 ≤ t.1 ∧ t.1 ≤ 6) ∧ a.1 = 0 ∧ b.1 = 0 ∧ 0 ≤ applyF t.1 a.2.1 b.2.1 ∧ applyF t.1 a.2.1 b.2.1 ≤ 999 then [(0, applyF t.1 a.2.1 b.2.1, ByteArray.empty)] else out
  | _ => out
def foldF (l : List Tk) : Nat → Nat → List Tk
  | 0, p => [tkAt l p]
  | f + 1, p => foldC (tkAt l p :: (operandsF l (p : Int)).flatMap fun o => foldF l f o.toNat)
theorem foldC_len (out : List Tk) (h : 1 ≤ out.length) : 1 ≤ (foldC out).length ∧ (foldC out).length ≤ out.length := by
  unfold foldC
  split
  · split
    · simp
    · simp
  · exact ⟨h, Nat.le_refl _⟩
theorem foldF_pos (l : List Tk) (f p : Nat) : 1 ≤ (foldF l f p).length := by
  cases f with
  | zero => simp [foldF]
  | succ f => exact (foldC_len _ (by simp)).1
theorem foldF_len (l : List Tk) : ∀ (f p : Nat), l.length - p ≤ f → 0 ≤ endL l p 1 → ((foldF l f p).length : Int) ≤ endL l p 1 - p := by
  intro f
  induction f with
  | zero =>
    intro p hf h
    have := (good_at l p h).1
    omega
  | succ f ih =>
    intro p hf h
    obtain ⟨hlt, _, he⟩ := good_at l p h
    have key : ∀ (k q : Nat), p < q → q ≤ l.length → 0 ≤ endL l q k → (((opsL l k (q : Int)).flatMap fun o => foldF l f o.toNat).length : Int) ≤ endL l q k - q := by
      intro k
      induction k with
      | zero => intro q _ _ _; rw [endL_zero]; simp [opsL]
      | succ k ihk =>
        intro q hpq hq h
        obtain ⟨e, h1, h2, h3, h4, h5⟩ := opsL_cons l k q hq h
        rw [h5, List.flatMap_cons, List.length_append, Int.toNat_natCast, h4]
        have a1 := ih q (by omega) (by omega)
        have a2 := ihk e (by omega) h3 (by omega)
        omega
    have h2 := key _ (p + 1) (by omega) (by omega) (by omega : 0 ≤ endL l (p + 1) (tkAr (tkAt l p)).toNat)
    have h3 := (foldC_len (tkAt l p :: (operandsF l (p : Int)).flatMap fun o => foldF l f o.toNat) (by simp)).2
    rw [foldF]
    rw [operandsF_nat l p h] at h3 ⊢
    simp only [List.length_cons] at h3
    omega
theorem operandsF_flat_len (l : List Tk) (f p : Nat) (hf : l.length - p ≤ f + 1) (h : 0 ≤ endL l p 1) (k : Nat) : (((operandsF l (p : Int)).take k).flatMap fun o => foldF l f o.toNat).length ≤ l.length := by
  obtain ⟨hlt, _, he⟩ := good_at l p h
  have key : ∀ (k q : Nat), p < q → q ≤ l.length → 0 ≤ endL l q k → (((opsL l k (q : Int)).flatMap fun o => foldF l f o.toNat).length : Int) ≤ endL l q k - q := by
    intro k
    induction k with
    | zero => intro q _ _ _; rw [endL_zero]; simp [opsL]
    | succ k ihk =>
      intro q hpq hq h
      obtain ⟨e, h1, h2, h3, h4, h5⟩ := opsL_cons l k q hq h
      rw [h5, List.flatMap_cons, List.length_append, Int.toNat_natCast, h4]
      have a1 := foldF_len l f q (by omega) (by omega)
      have a2 := ihk e (by omega) h3 (by omega)
      omega
  have hend : ∀ (m q k : Nat), l.length - q ≤ m → q ≤ l.length → endL l q k ≤ l.length := by
    intro m
    induction m with
    | zero =>
      intro q k hm hq
      by_cases hk : k = 0
      · subst hk; rw [endL_zero]; omega
      · rw [endL_out l q k (by omega) (by omega)]; omega
    | succ m ihm =>
      intro q k hm hq
      by_cases hk : k = 0
      · subst hk; rw [endL_zero]; omega
      · by_cases hql : q < l.length
        · cases hok : tkOk l[q]
          · rw [endL_bad l q k (by omega) hql hok]; omega
          · rw [endL_step l q k (by omega) hql hok]; exact ihm _ _ (by omega) (by omega)
        · rw [endL_out l q k (by omega) (by omega)]; omega
  have h2 := key _ (p + 1) (by omega) (by omega) (by omega : 0 ≤ endL l (p + 1) (tkAr (tkAt l p)).toNat)
  have h3 := hend _ (p + 1) (tkAr (tkAt l p)).toNat (Nat.le_refl _) (by omega)
  have h4 : (((operandsF l (p : Int)).take k).flatMap fun o => foldF l f o.toNat).length ≤ ((operandsF l (p : Int)).flatMap fun o => foldF l f o.toNat).length := by
    conv => rhs; rw [← List.take_append_drop k (operandsF l (p : Int)), List.flatMap_append, List.length_append]
    omega
  rw [operandsF_nat l p h] at h4
  have e0 : operandsF l (p : Int) = _ := operandsF_nat l p h
  rw [e0]
  omega
end Go.Proofs.Ytcfjbaanahgpoaa
