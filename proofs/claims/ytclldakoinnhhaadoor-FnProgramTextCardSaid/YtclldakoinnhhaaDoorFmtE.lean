import Derived.Test.YtclldakoinnhhaaDoorFmtT
import Derived.Test.YtclldakoinnhhaaDoorStrS
import Derived.Lib.Join
namespace Go.Proofs.YtclldakoinnhhaaDoor
open Go Go.RowKit
set_option maxRecDepth 100000
/-! Words, joined by blanks. -/
def jn (xs : List (List UInt8)) : List UInt8 := Lib.join xs [32]
theorem jn_snoc (xs : List (List UInt8)) (y : List UInt8) (h : xs ≠ []) : jn (xs ++ [y]) = jn xs ++ 32 :: y := by
  cases xs with
  | nil => exact absurd rfl h
  | cons x r =>
    unfold jn
    rw [List.cons_append, Lib.join_cons, Lib.join_cons]
    simp [Lib.joinTail]
theorem jn_one (y : List UInt8) : jn [y] = y := Lib.join_one y _
theorem jn_length (xs : List (List UInt8)) (m : Nat) (h : ∀ x ∈ xs, x.length ≤ m) : (jn xs).length ≤ (m + 1) * xs.length := by
  have key : ∀ n, ∀ xs : List (List UInt8), xs.length = n → (∀ x ∈ xs, x.length ≤ m) → (jn xs).length ≤ (m + 1) * n := by
    intro n
    induction n with
    | zero => intro xs hx _; rw [List.eq_nil_of_length_eq_zero hx]; exact Nat.le_refl _
    | succ n ih =>
      intro xs hx hm
      have hne : xs ≠ [] := by intro e; rw [e] at hx; simp at hx
      obtain ⟨ys, y, rfl⟩ : ∃ ys y, xs = ys ++ [y] := ⟨xs.dropLast, xs.getLast hne, (List.dropLast_concat_getLast hne).symm⟩
      have hy := hm y (by simp)
      have hys : ys.length = n := by simpa using hx
      have := ih ys hys (fun x hx => hm x (by simp [hx]))
      rw [Nat.mul_succ]
      by_cases h0 : ys = []
      · subst h0; rw [List.nil_append, jn_one]; omega
      · rw [jn_snoc _ _ h0, List.length_append, List.length_cons]; omega
  exact key _ xs rfl h
theorem fmtTk_size (t : Tk) : (fmtTkF t).size ≤ 32 := by
  unfold fmtTkF
  cases hok : tkOk t
  · exact Nat.zero_le _
  · rw [if_pos rfl]
    obtain ⟨k, n, s⟩ := t
    unfold tkOk at hok
    have hc := tok_cases _ _ _ hok
    simp only at hc hok ⊢
    have hi : ∀ n : Int, 0 ≤ n → n ≤ 999 → (⟨(Lib.itoa n).toArray⟩ : ByteArray).size ≤ 21 := fun n h0 h1 => Lib.itoa_length_le n (by omega) (by omega)
    split
    · have := hi n (by omega) (by omega); omega
    · split
      · rename_i h1
        subst h1
        unfold tokOkF nameOkF at hok
        simp [btw] at hok
        have : s.data.toList.length = s.size := rfl
        simp at this
        omega
      · split
        · rename_i h7
          subst h7
          have h1 := tok7_size n s hok
          have h2 := hi n (by omega) (by omega)
          rw [ByteArray.size_append, ByteArray.size_append]
          have : (⟨#[47]⟩ : ByteArray).size = 1 := rfl
          omega
        · unfold opSign
          rw [ByteArray.size_extract]
          have : (⟨#[43, 45, 42, 60, 61]⟩ : ByteArray).size = 5 := rfl
          omega
def exBs (l : List Tk) : List (List UInt8) := l.map fun t => (fmtTkF t).data.toList
theorem exBs_le (l : List Tk) : ∀ x ∈ exBs l, x.length ≤ 32 := by
  intro x hx
  obtain ⟨t, _, rfl⟩ := List.mem_map.1 hx
  exact fmtTk_size t
theorem exBs_length (l : List Tk) : (exBs l).length = l.length := by simp [exBs]
def fmtExF (l : List Tk) : ByteArray := if exprOkF l = true then ⟨(jn (exBs l)).toArray⟩ else ByteArray.empty
theorem exprOk_len {l : List Tk} (h : exprOkF l = true) : 0 < l.length ∧ l.length ≤ 20 := by
  unfold exprOkF at h
  simp at h
  omega
theorem fmtEx_size (l : List Tk) : (fmtExF l).size ≤ 660 := by
  unfold fmtExF
  split
  · rename_i h
    have := jn_length (exBs l) 32 (exBs_le l)
    rw [exBs_length] at this
    have h2 := (exprOk_len h).2
    show (jn (exBs l)).length ≤ 660
    omega
  · exact Nat.zero_le _
theorem app32 (a : List UInt8) (t : ByteArray) : ((⟨a.toArray⟩ : ByteArray) ++ ⟨#[32]⟩) ++ t = ⟨(a ++ 32 :: t.data.toList).toArray⟩ := by
  apply ByteArray.ext; simp [ByteArray.data_append]
set_option maxHeartbeats 1000000 in
theorem i_formatExpr (A : Option Addr) (n c : Nat) (l : List Tk) (w : World) (hn : n ≤ 1048576) (hl : l.length = n) (h : InRow w A n 3 (tokCells l)) (hs : ∀ t ∈ l, t.2.2.size ≤ maxLen) (hp : PowIs w) :
    Calls Tryd.prog 31 #[.slice A n c] w fun e w' => e = .returned (.string (fmtExF l)) ∧ Below w.heap.size w w' := by
  obtain ⟨i0, hi, hz0, hz1, hz2⟩ := info_parts Tryd.infoStr
  have H := hide h
  have HL := hide hl
  have HS := hide hs
  have HP := hide hp
  clear h hl hs hp
  cases hok : exprOkF l
  · have HN : Hid (fmtExF l = ByteArray.empty) := by show _ = _; unfold fmtExF; rw [hok]; rfl
    have HK := hide hok
    clear hok
    go_enter Tryd.func31, Tryd.ntmps31
    go_wp2_with fail
    refine (i_exprOk A n c l _ hn HL.out H.out HS.out).mono ?_
    rintro e w1 ⟨rfl, hb⟩
    rw [HK.out]
    go_wp2_with fail
    go_ret
    exact ⟨by rw [HN.out]; rfl, hb⟩
  · obtain ⟨l0, l1⟩ := exprOk_len hok
    have HN : Hid (fmtExF l = ⟨(jn (exBs l)).toArray⟩) := by show _ = _; unfold fmtExF; rw [hok]; rfl
    have HK := hide hok
    have hn0 : 0 < n ∧ n ≤ 20 := by rw [← HL.out]; exact ⟨l0, l1⟩
    clear hok l0 l1
    go_enter Tryd.func31, Tryd.ntmps31
    go_wp2_with fail
    refine (i_exprOk A n c l _ hn HL.out H.out HS.out).mono ?_
    rintro e w1 ⟨rfl, hb1⟩
    rw [HK.out]
    have B1 := hide hb1
    clear hb1
    go_wp2_with fail
    go_loopw [3, 12] (fun v i wr => ∃ k : Nat, k ≤ n ∧ i = .int .i64 k ∧ wr.ownsRow w.heap.size 9 1 v k (strCells ((l.map fmtTkF).take k)) ∧ Below w.heap.size w wr) (fun _ i _ => n - (intOf i).toNat)
    case atStart => exact ⟨0, Nat.zero_le _, rfl, World.ownsRow_lit w1 #[] 0 B1.out.size (Nat.zero_le _) rfl, B1.out.alloc B1.out.size _⟩
    case round =>
      obtain ⟨k, hk, rfl, hown, hb⟩ := hrel
      have HO := hide hown
      have HB := hide hb
      have R := hide (H.out.below hb)
      clear hown hb
      by_cases hlt : k < n
      · have hkl : k < l.length := by rw [HL.out]; exact hlt
        obtain ⟨b, o, rfl, hbl, c0, c1, c2⟩ := R.out.tok k hkl
        have hsz := HS.out _ (List.getElem_mem hkl)
        have hst : Hid (strCells ((l.map fmtTkF).take (k + 1)) = strCells ((l.map fmtTkF).take k) ++ [.string (fmtTkF l[k])]) := by
          show _ = _
          rw [List.take_succ_eq_append_getElem (by rw [List.length_map]; exact hkl), List.getElem_map, strCells_snoc]
        go_wp2_with fail
        refine (i_formatTok l[k].1 l[k].2.1 l[k].2.2 hsz _ ((HP.out.below HB.out).below ((Below.refl _ _).alloc (Nat.le_refl _) _))).mono ?_
        rintro e w2 ⟨rfl, hb2⟩
        have B2 := hide ((HB.out.alloc HB.out.size (.cells #[.int .i64 l[k].1, .int .i64 l[k].2.1, .string l[k].2.2] 32)).trans (hb2.mono (by have := HB.out.size; simp; omega)))
        have HO2 := hide (own_belowZ (HO.out.alloc (.cells #[.int .i64 l[k].1, .int .i64 l[k].2.1, .string l[k].2.2] 32)) hb2)
        clear hb2 c0 c1 c2
        go_wp2_with (first | (at_builtin; refine wpList_app _ rfl (.tmp 16) (.tmp 19) _ rfl w.heap.size 9 i0 _ 1 16 Tryd.underlying26 hi hz0 hz1 hz2 rfl (by decide) u3 _ _ rfl HO2.out 1 [.string (fmtTkF l[k])] rfl ?c1 ?c2 ?c3 ?c4 ?c5 ?_) | fail)
        case c1 => rfl
        case c2 => first | rfl | (intro u hu; obtain rfl := List.mem_singleton.1 hu; rfl)
        case c3 => omega
        case c4 => decide
        case c5 => exact B2.out.size
        intro v' w3 hown3 hb3 _ _
        rw [← hst.out] at hown3
        have HO3 := hide hown3
        have HB3 := hide (B2.out.trans hb3)
        clear hown3 hb3
        go_wp2_with fail
        go_roundw
        case rel => exact ⟨k + 1, by omega, by go_num, HO3.out, HB3.out⟩
        case measure => simp [intOf]; omega
      · have HO2 : Hid (wr.ownsRow w.heap.size 9 1 u3 n (strCells (l.map fmtTkF))) := by
          have := HO.out
          rw [List.take_of_length_le (by rw [List.length_map, HL.out]; omega)] at this
          rwa [show k = n by omega] at this
        obtain ⟨A', c', hv, hnc', ha'⟩ := Arr.of_own HO2.out
        subst hv
        obtain ⟨g, rfl, g1, g2, g3, hc⟩ := ha'.2 (by omega)
        have HC := hide hc
        have hml : (l.map fmtTkF).length = n := by rw [List.length_map, HL.out]
        have hj : Hid (Calls Tryd.prog 32 #[.slice (some ⟨g, 0, none⟩) n c', .string ⟨#[32]⟩] wr fun e w' => e = .returned (.string (fmtExF l)) ∧ Below wr.heap.size wr w') := by
          have hmm : (l.map fmtTkF).map (·.data.toList) = exBs l := by rw [List.map_map]; rfl
          have := Tryd.strings_Join g 0 c' (l.map fmtTkF) ⟨#[32]⟩ wr (fun j x hj => by
            rw [Nat.zero_add]
            have hjl : j < (l.map fmtTkF).length := (List.getElem?_eq_some_iff.1 hj).1
            rw [(HC.out j (by omega)).1]
            unfold strCells
            rw [List.getElem?_map, hj]; rfl) g2 (by omega) (by omega) (by
              rw [hmm]
              have := jn_length (exBs l) 32 (exBs_le l)
              rw [exBs_length, HL.out] at this
              show (jn (exBs l)).length ≤ _
              omega)
          rw [hml, hmm] at this
          rw [HN.out]
          exact this
        clear hc ha'
        go_wp2_with fail
        refine hj.out.mono ?_
        rintro e w2 ⟨rfl, hb2⟩
        go_wp2_with fail
        go_ret
        exact ⟨rfl, HB.out.trans (hb2.mono HB.out.size)⟩
end Go.Proofs.YtclldakoinnhhaaDoor
