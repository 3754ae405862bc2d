import Derived.Test.YtcfjbaanahgpoaaOpS
namespace Go.Proofs.Ytcfjbaanahgpoaa
open Go.RowKit
/-- The instructions from a place on. -/
def disF (l : List UInt8) (p : Nat) : Option (List (Int × Int)) :=
  if _h : p < l.length then
    match decOpF l p with
    | none => none
    | some (c, a) => (disF l (p + opW c + 1)).map ((c, a) :: ·)
  else some []
termination_by l.length - p
decreasing_by omega
theorem disF_end (l : List UInt8) (p : Nat) (h : l.length ≤ p) : disF l p = some [] := by rw [disF]; rw [dif_neg (by omega)]
theorem disF_bad (l : List UInt8) (p : Nat) (h : p < l.length) (hb : decOpF l p = none) : disF l p = none := by rw [disF]; rw [dif_pos h, hb]
theorem disF_step (l : List UInt8) (p : Nat) (h : p < l.length) {c a : Int} (hb : decOpF l p = some (c, a)) : disF l p = (disF l (p + opW c + 1)).map ((c, a) :: ·) := by rw [disF]; rw [dif_pos h, hb]
theorem decOpF_le (l : List UInt8) (p : Nat) {c a : Int} (hb : decOpF l p = some (c, a)) : p + opW c + 1 ≤ l.length := by
  unfold decOpF at hb
  split at hb
  · simp only [Int.toNat_natCast] at hb
    split at hb
    · rename_i _ h2
      simp only [Option.some.injEq, Prod.mk.injEq] at hb
      obtain ⟨rfl, _⟩ := hb
      omega
    · simp at hb
  · simp at hb
def disL (o : Option (List (Int × Int))) : List (Int × Int) := o.getD []
theorem dis_map_acc (l : List UInt8) (p : Nat) (acc : List (Int × Int)) (x : Int × Int) (q : Nat) (h : disF l p = (disF l q).map (x :: ·)) :
    (disF l p).map (acc ++ ·) = (disF l q).map ((acc ++ [x]) ++ ·) := by
  rw [h, Option.map_map]; congr 1; funext y; simp
theorem disF_length (l : List UInt8) : ∀ (n p : Nat), l.length - p = n → ∀ ops, disF l p = some ops → ops.length ≤ n := by
  intro n
  induction n using Nat.strongRecOn with
  | _ n ih =>
    intro p hn ops h
    rcases Nat.lt_or_ge p l.length with hp | hp
    · cases hd : decOpF l p with
      | none => rw [disF_bad l p hp hd] at h; cases h
      | some x =>
        obtain ⟨c, a⟩ := x
        rw [disF_step l p hp hd] at h
        obtain ⟨y, hy, rfl⟩ := Option.map_eq_some_iff.1 h
        have := ih (l.length - (p + opW c + 1)) (by omega) _ rfl y hy
        simp only [List.length_cons]
        omega
    · rw [disF_end l p hp] at h
      cases h
      exact Nat.zero_le _
theorem disL_length (l : List UInt8) (p : Nat) : (disL (disF l p)).length ≤ l.length := by
  cases h : disF l p with
  | none => exact Nat.zero_le _
  | some ops => have := disF_length l _ p rfl ops h; simp only [disL, Option.getD_some]; omega
theorem Try.infoOp : (Try.prog.info? 47).map (fun i => (i.zero, i.size, i.bytes)) = some (some (.agg #[.int .i64 0, .int .i64 0]), 2, 16) := by kernel_rfl
set_option maxHeartbeats 1000000 in
theorem i_disassemble (s : ByteArray) (hs : s.size ≤ 1073741824) (w : World) :
    Calls Try.prog 49 #[.string s] w fun e w' => (∃ v, e = .returned (.tuple #[v, .bool (disF s.data.toList 0).isSome]) ∧ w'.ownsRow w.heap.size 47 2 v (disL (disF s.data.toList 0)).length (opCells (disL (disF s.data.toList 0)))) ∧ Below w.heap.size w w' := by
  obtain ⟨i0, hi, hz0, hz1, hz2⟩ := info_parts Try.infoOp
  go_enter Try.func49, Try.ntmps49
  go_wp2
  go_loopw [4, 5] (fun v i wr => ∃ (p : Nat) (acc : List (Int × Int)), p ≤ s.size ∧ acc.length ≤ p ∧ i = .int .i64 p ∧ disF s.data.toList 0 = (disF s.data.toList p).map (acc ++ ·) ∧ wr.ownsRow w.heap.size 47 2 v acc.length (opCells acc) ∧ Below w.heap.size w wr) (fun _ i _ => s.size - (intOf i).toNat)
  case atStart => exact ⟨0, [], Nat.zero_le _, Nat.zero_le _, rfl, by simp, World.ownsRow_lit w _ 0 (Nat.le_refl _) (Nat.zero_le _) rfl, (Below.refl _ _).alloc (Nat.le_refl _) _⟩
  case round =>
    obtain ⟨p, acc, hp, hacc, rfl, hdis, hown, hb⟩ := hrel
    have HD := hide hdis
    have HO := hide hown
    have HB := hide hb
    clear hdis hown hb
    by_cases hlt : p < s.size
    · cases hdec : decOpF s.data.toList p with
      | none =>
        have hfin : Hid (disF s.data.toList 0 = none) := by
          show disF s.data.toList 0 = none
          rw [HD.out, disF_bad _ _ (by rw [len_toList]; exact hlt) hdec]; rfl
        have hv : Hid (decV (decOpF s.data.toList p) = .tuple #[.agg #[.int .i64 0, .int .i64 0], .int .i64 0, .bool false]) := by rw [hdec]; rfl
        clear hdec
        go_wp2_with fail
        refine (i_decodeOp s hs _ _).mono ?_
        rintro e w1 ⟨rfl, hb1⟩
        rw [hv.out]
        go_wp2
        go_ret2
        refine ⟨⟨.slice none 0 0, ?_, ?_⟩, ?_⟩
        · rw [hfin.out]; rfl
        · rw [hfin.out]; exact World.ownsRow_nil _ _ _ _
        · exact (HB.out.trans (hb1.mono HB.out.size)).alloc (by have := HB.out.size; have := hb1.size; omega) _
      | some x =>
        obtain ⟨c, a⟩ := x
        have hv : Hid (decV (decOpF s.data.toList p) = .tuple #[.agg #[.int .i64 c, .int .i64 a], .int .i64 (opW c + 1), .bool true]) := by rw [hdec]; rfl
        have hle := decOpF_le _ _ hdec
        rw [len_toList] at hle
        have hstep := hide (HD.out.trans (dis_map_acc _ _ acc _ _ (disF_step _ _ (by rw [len_toList]; exact hlt) hdec)))
        have hsn := hide (opCells_snoc acc (c, a))
        clear hdec
        go_wp2_with fail
        refine (i_decodeOp s hs _ _).mono ?_
        rintro e w1 ⟨rfl, hb1⟩
        rw [hv.out]
        have HO1 := hide (own_belowZ HO.out hb1)
        have HB1 := hide (HB.out.trans (hb1.mono HB.out.size))
        clear HO hb1
        go_wp2_with (at_builtin; refine wpList_appN _ rfl (.tmp 23) (.tmp 25) _ rfl w.heap.size 47 i0 _ 2 16 Try.underlying84 hi hz0 hz1 hz2 rfl (by decide) u4 _ _ rfl (HO1.out.alloc _) 1 [.int .i64 c, .int .i64 a] rfl ?c0 ?c1 ?c2 ?c3 ?c4 ?c5 ?_)
        case c0 => simp
        case c1 => rfl
        case c2 => intro u hu; simp at hu; rcases hu with rfl | rfl <;> rfl
        case c3 => omega
        case c4 => decide
        case c5 => have := HB1.out.size; simp; omega
        intro v' w3 hown3 hb3 _ _
        rw [← hsn.out] at hown3
        have hown4 := hide hown3
        have hb4 := hide ((HB1.out.alloc HB1.out.size _).trans hb3)
        clear hown3 hb3
        go_wp2
        go_roundw
        case rel => exact ⟨p + opW c + 1, acc ++ [(c, a)], hle, by simp; omega, by go_num, hstep.out, by simpa using hown4.out, hb4.out⟩
        case measure => simp [intOf]; omega
    · have hfin : Hid (disF s.data.toList 0 = some acc) := by
        show disF s.data.toList 0 = some acc
        rw [HD.out, disF_end _ _ (by rw [len_toList]; omega)]; simp
      go_wp2
      go_ret2
      refine ⟨⟨u4, ?_, ?_⟩, HB.out⟩
      · rw [hfin.out]; rfl
      · rw [hfin.out]; exact HO.out
end Go.Proofs.Ytcfjbaanahgpoaa
