import Derived.Test.YtmihlgkbnakjmaaExpr
import Derived.Test.YtmihlgkbnakjmaaLin
namespace Go.Proofs.Ytmihlgkbnakjmaa
open Go.RowKit
set_option maxRecDepth 100000
noncomputable def yes (p : Prop) : Bool := @decide p (Classical.propDecidable _)
theorem yes_of {p : Prop} (h : p) : yes p = true := @decide_eq_true _ (Classical.propDecidable _) h
theorem yes_not {p : Prop} (h : ¬ p) : yes p = false := @decide_eq_false _ (Classical.propDecidable _) h
def idxFrom (s : ByteArray) : List ByteArray → Nat → Int
  | [], _ => -1
  | x :: l, k => if x = s then (k : Int) else idxFrom s l (k + 1)
def idxF (l : List ByteArray) (s : ByteArray) : Int := idxFrom s l 0
theorem idxFrom_ge (s : ByteArray) (l : List ByteArray) : ∀ k : Nat, idxFrom s l k = -1 ∨ ((k : Int) ≤ idxFrom s l k ∧ idxFrom s l k < k + l.length) := by
  induction l with
  | nil => intro k; exact .inl rfl
  | cons x l ih =>
    intro k
    rw [idxFrom]
    split
    · right; simp; omega
    · rcases ih (k + 1) with h | h
      · exact .inl h
      · right; simp; omega
theorem idxFrom_mem (s : ByteArray) (l : List ByteArray) : ∀ k : Nat, 0 ≤ idxFrom s l k ↔ s ∈ l := by
  induction l with
  | nil => intro k; simp [idxFrom]
  | cons x l ih =>
    intro k
    rw [idxFrom]
    split
    · rename_i h; subst h; simp
    · rename_i h; rw [ih (k + 1), List.mem_cons]; exact ⟨.inr, fun h' => h'.resolve_left (fun e => h e.symm)⟩
theorem idxF_mem (l : List ByteArray) (s : ByteArray) : 0 ≤ idxF l s ↔ s ∈ l := idxFrom_mem s l 0
theorem idxF_le (l : List ByteArray) (s : ByteArray) : -1 ≤ idxF l s ∧ idxF l s < l.length := by
  rcases idxFrom_ge s l 0 with h | h
  · unfold idxF; rw [h]; omega
  · unfold idxF; omega
def hasExprF (k : Int) : Bool := decide (k = 1 ∨ k = 2 ∨ k = 3 ∨ k = 5 ∨ k = 6)
def GoodArgs (l : List ByteArray) (m : Nat) : Prop := ∀ i, i < m → ∀ h : i < l.length, nameOkF l[i].data.toList = true ∧ l[i] ∉ l.take i
theorem GoodArgs.zero (l : List ByteArray) : GoodArgs l 0 := fun i h => by omega
theorem GoodArgs.step {l : List ByteArray} {m : Nat} (h : GoodArgs l m) (hm : m < l.length) (h1 : nameOkF l[m].data.toList = true) (h2 : l[m] ∉ l.take m) : GoodArgs l (m + 1) := by
  intro i hi hl
  by_cases e : i = m
  · subst e; exact ⟨h1, h2⟩
  · exact h i (by omega) hl
def ArgsP (l : List ByteArray) : Prop := l.length ≤ 4 ∧ GoodArgs l l.length
def LineOkP (x : Ln) : Prop := btw x.1 0 7 = true ∧ ((x.1 = 0 ∨ x.1 = 1) → nameOkF x.2.1.data.toList = true) ∧ (¬ (x.1 = 0 ∨ x.1 = 1) → x.2.1 = ByteArray.empty) ∧
  (x.1 = 0 → ArgsP x.2.2.1) ∧ (x.1 ≠ 0 → x.2.2.1 = []) ∧ (hasExprF x.1 = true → exprOkF x.2.2.2 = true) ∧ (hasExprF x.1 = false → x.2.2.2 = [])
end Go.Proofs.Ytmihlgkbnakjmaa
