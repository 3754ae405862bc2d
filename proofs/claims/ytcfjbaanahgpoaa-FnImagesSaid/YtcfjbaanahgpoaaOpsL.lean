import Derived.Test.YtcfjbaanahgpoaaDis
namespace Go.Proofs.Ytcfjbaanahgpoaa
open Go.RowKit
set_option maxRecDepth 100000
/-! Plain facts: an instruction can be decoded from its bytes, wherever these stand. -/
theorem opOk_btw {c a : Int} (h : opOkF c a = true) : 0 ≤ c ∧ c ≤ 17 := by
  unfold opOkF at h
  rw [Bool.and_eq_true] at h
  exact of_decide_eq_true h.1
theorem encOp_len {c a : Int} (h : opOkF c a = true) : (encOpF c a).length = opW c + 1 := by
  unfold encOpF; rw [if_pos h]; simp [opBytes]
theorem opByte_nat (a : Int) (k : Nat) : ((opByte a k).toNat : Int) = a / 2 ^ (8 * k) % 256 := u8_cell' _ (by omega)
theorem getD_enc (A B : List UInt8) (c a : Int) (m k : Nat) (h : k < m) : (A ++ opBytes c a m ++ B).getD (A.length + 1 + k) 0 = opByte a k := by
  rw [List.getD_eq_getElem?_getD, List.append_assoc, List.getElem?_append_right (by omega), List.getElem?_append_left (by simp [opBytes]; omega)]
  rw [show A.length + 1 + k - A.length = k + 1 by omega]
  simp [opBytes, h]
theorem head_enc (A B : List UInt8) (c a : Int) (m : Nat) : (A ++ opBytes c a m ++ B).getD A.length 0 = UInt8.ofNat (c % 256).toNat := by
  rw [List.getD_eq_getElem?_getD, List.append_assoc, List.getElem?_append_right (by omega), List.getElem?_append_left (by simp [opBytes])]
  simp [opBytes]
theorem dec_enc (A B : List UInt8) (c a : Int) (h : opOkF c a = true) : decOpF (A ++ encOpF c a ++ B) (A.length : Int) = some (c, a) := by
  have hc := opOk_btw h
  have hb : btw c 0 17 = true := decide_eq_true hc
  unfold encOpF
  rw [if_pos h]
  unfold decOpF
  rw [if_pos (by simp [opBytes]; omega)]
  simp only [Int.toNat_natCast]
  rw [head_enc]
  have e : (((UInt8.ofNat (c % 256).toNat).toNat : Nat) : Int) = c := by rw [u8_cell' _ (by omega)]; omega
  rw [e, if_pos ⟨hb, by simp [opBytes]; omega⟩]
  have b0 : ((opByte a 0).toNat : Int) = a % 256 := by simpa using opByte_nat a 0
  have b1 : ((opByte a 1).toNat : Int) = a / 256 % 256 := by simpa using opByte_nat a 1
  have b2 : ((opByte a 2).toNat : Int) = a / 65536 % 256 := by simpa using opByte_nat a 2
  have b3 : ((opByte a 3).toNat : Int) = a / 16777216 % 256 := by simpa using opByte_nat a 3
  rcases opCases c with ⟨hW, hS⟩ | ⟨hW, hS⟩ | ⟨hW, hS⟩ | ⟨hW, hS⟩ | ⟨hW, hS⟩
  all_goals rw [opOk_in hb hW hS] at h
  all_goals simp only [hW, hS]
  all_goals simp [btw] at h
  · have hr : rawF (A ++ opBytes c a 4 ++ B) (A.length + 1) 4 = (opByte a 0).toNat + (opByte a 1).toNat * 256 + (opByte a 2).toNat * 65536 + (opByte a 3).toNat * 16777216 := by
      show 0 + ((A ++ opBytes c a 4 ++ B).getD (A.length + 1 + 0) 0).toNat * 2 ^ (8 * 0) + ((A ++ opBytes c a 4 ++ B).getD (A.length + 1 + 1) 0).toNat * 2 ^ (8 * 1) + ((A ++ opBytes c a 4 ++ B).getD (A.length + 1 + 2) 0).toNat * 2 ^ (8 * 2) + ((A ++ opBytes c a 4 ++ B).getD (A.length + 1 + 3) 0).toNat * 2 ^ (8 * 3) = _
      rw [getD_enc A B c a 4 0 (by omega), getD_enc A B c a 4 1 (by omega), getD_enc A B c a 4 2 (by omega), getD_enc A B c a 4 3 (by omega)]
      omega
    rw [hr]
    unfold argF
    congr 2
    generalize (opByte a 0).toNat = n0 at *
    generalize (opByte a 1).toNat = n1 at *
    generalize (opByte a 2).toNat = n2 at *
    generalize (opByte a 3).toNat = n3 at *
    split
    · rename_i hq; obtain ⟨-, hq⟩ := hq; simp at hq ⊢; omega
    · rename_i hq; simp at hq ⊢; omega
  · have hr : rawF (A ++ opBytes c a 2 ++ B) (A.length + 1) 2 = (opByte a 0).toNat + (opByte a 1).toNat * 256 := by
      show 0 + ((A ++ opBytes c a 2 ++ B).getD (A.length + 1 + 0) 0).toNat * 2 ^ (8 * 0) + ((A ++ opBytes c a 2 ++ B).getD (A.length + 1 + 1) 0).toNat * 2 ^ (8 * 1) = _
      rw [getD_enc A B c a 2 0 (by omega), getD_enc A B c a 2 1 (by omega)]
      omega
    rw [hr]
    unfold argF
    congr 2
    generalize (opByte a 0).toNat = n0 at *
    generalize (opByte a 1).toNat = n1 at *
    split
    · rename_i hq; obtain ⟨-, hq⟩ := hq; simp at hq ⊢; omega
    · rename_i hq; simp at hq ⊢; omega
  · have hr : rawF (A ++ opBytes c a 2 ++ B) (A.length + 1) 2 = (opByte a 0).toNat + (opByte a 1).toNat * 256 := by
      show 0 + ((A ++ opBytes c a 2 ++ B).getD (A.length + 1 + 0) 0).toNat * 2 ^ (8 * 0) + ((A ++ opBytes c a 2 ++ B).getD (A.length + 1 + 1) 0).toNat * 2 ^ (8 * 1) = _
      rw [getD_enc A B c a 2 0 (by omega), getD_enc A B c a 2 1 (by omega)]
      omega
    rw [hr]
    unfold argF
    congr 2
    generalize (opByte a 0).toNat = n0 at *
    generalize (opByte a 1).toNat = n1 at *
    rw [if_neg (by simp)]
    omega
  · have hr : rawF (A ++ opBytes c a 1 ++ B) (A.length + 1) 1 = (opByte a 0).toNat := by
      show 0 + ((A ++ opBytes c a 1 ++ B).getD (A.length + 1 + 0) 0).toNat * 2 ^ (8 * 0) = _
      rw [getD_enc A B c a 1 0 (by omega)]
      omega
    rw [hr]
    unfold argF
    congr 2
    rw [if_neg (by simp)]
    omega
  · unfold argF
    congr 2
    rw [if_neg (by simp)]
    show ((0 : Nat) : Int) = a
    omega
/-- The bytes of a list of instructions. -/
def encAll (L : List (Int × Int)) : List UInt8 := L.flatMap fun x => encOpF x.1 x.2
theorem encAll_snoc (L : List (Int × Int)) (x : Int × Int) : encAll (L ++ [x]) = encAll L ++ encOpF x.1 x.2 := by simp [encAll]
theorem encAll_take (L : List (Int × Int)) (k : Nat) (h : k < L.length) : encAll (L.take (k + 1)) = encAll (L.take k) ++ encOpF L[k].1 L[k].2 := by
  rw [List.take_succ_eq_append_getElem h, encAll_snoc]
theorem encAll_split (L : List (Int × Int)) (k : Nat) (h : k < L.length) : encAll L = encAll (L.take k) ++ encOpF L[k].1 L[k].2 ++ encAll (L.drop (k + 1)) := by
  have e : encAll (L.take (k + 1) ++ L.drop (k + 1)) = encAll (L.take (k + 1)) ++ encAll (L.drop (k + 1)) := by unfold encAll; rw [List.flatMap_append]
  rw [List.take_append_drop, encAll_take L k h] at e
  exact e
theorem encAll_len (L : List (Int × Int)) : (encAll L).length ≤ 5 * L.length := by
  induction L with
  | nil => simp [encAll]
  | cons x L ih =>
    have h1 : (encOpF x.1 x.2).length ≤ 5 := by
      unfold encOpF; have := opW_le x.1; split <;> simp [opBytes]; omega
    unfold encAll at ih ⊢
    rw [List.flatMap_cons, List.length_append, List.length_cons]
    omega
theorem dis_enc (L : List (Int × Int)) (hok : ∀ x ∈ L, opOkF x.1 x.2 = true) : ∀ A B : List UInt8, disF (A ++ encAll L ++ B) A.length = (disF (A ++ encAll L ++ B) (A ++ encAll L).length).map (L ++ ·) := by
  induction L with
  | nil =>
    intro A B
    simp [encAll]
  | cons x L ih =>
    intro A B
    have hx := hok x (by simp)
    have hl := encOp_len hx
    have he : A ++ encAll (x :: L) ++ B = (A ++ encOpF x.1 x.2) ++ encAll L ++ B := by simp [encAll]
    have he2 : A ++ encAll (x :: L) = (A ++ encOpF x.1 x.2) ++ encAll L := by simp [encAll]
    have hd := dec_enc A (encAll L ++ B) x.1 x.2 hx
    rw [← List.append_assoc] at hd
    rw [he, he2, disF_step _ A.length (by simp; omega) hd, show A.length + opW x.1 + 1 = (A ++ encOpF x.1 x.2).length by rw [List.length_append]; omega, ih (fun y hy => hok y (by simp [hy])) (A ++ encOpF x.1 x.2) B, Option.map_map]
    congr 1
theorem dis_all (L : List (Int × Int)) (hok : ∀ x ∈ L, opOkF x.1 x.2 = true) : disF (encAll L) 0 = some L := by
  have h := dis_enc L hok [] []
  simp only [List.nil_append, List.append_nil, List.length_nil] at h
  rw [h, disF_end _ _ (Nat.le_refl _)]
  simp
theorem dis_more (L : List (Int × Int)) (hok : ∀ x ∈ L, opOkF x.1 x.2 = true) : disF (encAll L ++ [255]) 0 = none := by
  have h := dis_enc L hok [] [255]
  simp only [List.nil_append, List.length_nil] at h
  rw [h, disF_bad _ _ (by simp)]
  · rfl
  · unfold decOpF
    rw [if_pos (by simp; omega)]
    have e : (encAll L ++ [255]).getD (((encAll L).length : Int)).toNat 0 = 255 := by simp
    simp only [e]
    rw [if_neg]
    intro hq
    exact absurd hq.1 (by decide)
end Go.Proofs.Ytcfjbaanahgpoaa
