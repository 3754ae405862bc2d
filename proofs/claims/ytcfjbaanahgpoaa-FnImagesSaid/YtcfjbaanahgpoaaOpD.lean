import Derived.Test.YtcfjbaanahgpoaaOpB
namespace Go.Proofs.Ytcfjbaanahgpoaa
open Go.RowKit
/-- The number that k bytes from a place on stand for, the lowest first. -/
def rawF (l : List UInt8) (p : Nat) : Nat → Nat
  | 0 => 0
  | k + 1 => rawF l p k + (l.getD (p + k) 0).toNat * 2 ^ (8 * k)
theorem rawF_lt (l : List UInt8) (p k : Nat) : rawF l p k < 2 ^ (8 * k) := by
  induction k with
  | zero => simp [rawF]
  | succ k ih =>
    have h := (l.getD (p + k) 0).toNat_lt
    have e : 2 ^ (8 * (k + 1)) = 256 * 2 ^ (8 * k) := by rw [Nat.mul_add, Nat.pow_add]; omega
    have h2 : (l.getD (p + k) 0).toNat * 2 ^ (8 * k) ≤ 255 * 2 ^ (8 * k) := Nat.mul_le_mul_right _ (by omega)
    simp only [rawF]
    omega
def argF (s : Bool) (n raw : Nat) : Int := if s ∧ 2 ^ (8 * n - 1) ≤ raw then (raw : Int) - (2 ^ (8 * n) : Nat) else raw
/-- The instruction at a place: its code and its argument. -/
def decOpF (l : List UInt8) (at' : Int) : Option (Int × Int) :=
  if 0 ≤ at' ∧ at' < l.length then
    let c : Int := (l.getD at'.toNat 0).toNat
    if btw c 0 17 ∧ at'.toNat + 1 + opW c ≤ l.length then some (c, argF (opS c) (opW c) (rawF l (at'.toNat + 1) (opW c))) else none
  else none
def decV (o : Option (Int × Int)) : Value := match o with
  | some (c, a) => .tuple #[.agg #[.int .i64 c, .int .i64 a], .int .i64 (opW c + 1), .bool true]
  | none => .tuple #[.agg #[.int .i64 0, .int .i64 0], .int .i64 0, .bool false]
theorem decOp_out (l : List UInt8) (p : Int) (h : ¬ (0 ≤ p ∧ p < l.length)) : decOpF l p = none := by unfold decOpF; rw [if_neg h]
theorem decOp_bad (s : ByteArray) (p : Nat) (h : p < s.size) (hb : ¬ (btw ((s[p].toNat : Nat) : Int) 0 17 ∧ p + 1 + opW ((s[p].toNat : Nat) : Int) ≤ s.size)) : decOpF s.data.toList p = none := by
  unfold decOpF
  rw [if_pos (by rw [len_toList]; omega)]
  simp only [Int.toNat_natCast, getD_toList s p h, len_toList]
  rw [if_neg hb]
theorem decOp_good (s : ByteArray) (p : Nat) (h : p < s.size) (hb : btw ((s[p].toNat : Nat) : Int) 0 17 ∧ p + 1 + opW ((s[p].toNat : Nat) : Int) ≤ s.size) :
    decOpF s.data.toList p = some (((s[p].toNat : Nat) : Int), argF (opS ((s[p].toNat : Nat) : Int)) (opW ((s[p].toNat : Nat) : Int)) (rawF s.data.toList (p + 1) (opW ((s[p].toNat : Nat) : Int)))) := by
  unfold decOpF
  rw [if_pos (by rw [len_toList]; omega)]
  simp only [Int.toNat_natCast, getD_toList s p h, len_toList]
  rw [if_pos hb]
theorem opSize_in {c : Int} (h : btw c 0 17 = true) : opSizeF c = opW c + 1 := by
  unfold opSizeF; unfold btw at h; rw [if_pos (of_decide_eq_true h)]
theorem ofInt_i64 (a : Nat) (ha : a < 9223372036854775808) : (BitVec.ofInt 64 (a : Int)).toNat = a := by
  rw [BitVec.ofInt_natCast, BitVec.toNat_ofNat]; exact Nat.mod_eq_of_lt (by omega)
theorem i64_or_nat (a b : Nat) (ha : a < 9223372036854775808) (hb : b < 9223372036854775808) : bits .or .i64 (a : Int) (b : Int) = ((a ||| b : Nat) : Int) := by
  have hx : a ||| b < 2 ^ 63 := Nat.or_lt_two_pow (by omega) (by omega)
  show IntKind.i64.wrap ((BitVec.ofInt 64 (a : Int) ||| BitVec.ofInt 64 (b : Int)).toNat : Int) = _
  rw [BitVec.toNat_or, ofInt_i64 a ha, ofInt_i64 b hb, IntKind.wrap_i64]
  omega
theorem pow8 (k : Nat) (h : k < 4) : 2 ^ (8 * k) ≤ 16777216 := by
  have : 2 ^ (8 * k) ≤ 2 ^ 24 := Nat.pow_le_pow_right (by omega) (by omega)
  exact this
theorem shl_byte (b : UInt8) (k : Nat) (h : k < 4) : wrap64 (wrap64 (b.toNat : Int) * 2 ^ (8 * k)) = ((b.toNat * 2 ^ (8 * k) : Nat) : Int) := by
  have hb := b.toNat_lt
  have hp := pow8 k h
  have hm : b.toNat * 2 ^ (8 * k) ≤ 255 * 16777216 := Nat.mul_le_mul (by omega) hp
  rw [IntWalk.wrap64_in (b.toNat : Int) (by omega)]
  have e : (b.toNat : Int) * 2 ^ (8 * k) = ((b.toNat * 2 ^ (8 * k) : Nat) : Int) := by push_cast; rfl
  rw [e, IntWalk.wrap64_in _ (by omega)]
theorem raw_bound (l : List UInt8) (q k : Nat) (h : k ≤ 4) : rawF l q k < 4294967296 := by
  have h1 := rawF_lt l q k
  have : 2 ^ (8 * k) ≤ 2 ^ 32 := Nat.pow_le_pow_right (by omega) (by omega)
  omega
theorem raw_or (s : ByteArray) (p k : Nat) (h : k < 4) (hk : p + 1 + k < s.size) :
    bits .or .i64 ((rawF s.data.toList (p + 1) k : Nat) : Int) (wrap64 (wrap64 ((s[p + 1 + k].toNat : Nat) : Int) * 2 ^ (8 * k))) = ((rawF s.data.toList (p + 1) (k + 1) : Nat) : Int) := by
  have h1 := raw_bound s.data.toList (p + 1) k (by omega)
  have h2 := rawF_lt s.data.toList (p + 1) k
  have hb := s[p + 1 + k].toNat_lt
  have hp := pow8 k h
  have hm : s[p + 1 + k].toNat * 2 ^ (8 * k) ≤ 255 * 16777216 := Nat.mul_le_mul (by omega) hp
  rw [shl_byte _ _ h, i64_or_nat _ _ (by omega) (by omega), Nat.or_comm, nat_join (8 * k) _ _ (Nat.mul_mod_left _ _) h2]
  simp only [rawF, getD_toList s (p + 1 + k) hk]
  rw [Nat.add_comm]
theorem raw_add (s : ByteArray) (p k : Nat) (h : k < 4) (hk : p + 1 + k < s.size) :
    wrap64 (((rawF s.data.toList (p + 1) k : Nat) : Int) + wrap64 (wrap64 ((s[p + 1 + k].toNat : Nat) : Int) * 2 ^ (8 * k))) = ((rawF s.data.toList (p + 1) (k + 1) : Nat) : Int) := by
  have h1 := raw_bound s.data.toList (p + 1) k (by omega)
  have hb := s[p + 1 + k].toNat_lt
  have hp := pow8 k h
  have hm : s[p + 1 + k].toNat * 2 ^ (8 * k) ≤ 255 * 16777216 := Nat.mul_le_mul (by omega) hp
  rw [shl_byte _ _ h, IntWalk.wrap64_in _ (by omega)]
  simp only [rawF, getD_toList s (p + 1 + k) hk]
  push_cast; rfl
set_option maxHeartbeats 1000000 in
theorem i_decodeOp (s : ByteArray) (hs : s.size ≤ 1073741824) (p : Int) (w : World) :
    Calls Try.prog 77 #[.string s, .int .i64 p] w fun e w' => e = .returned (decV (decOpF s.data.toList p)) ∧ Below w.heap.size w w' := by
  by_cases hp : 0 ≤ p ∧ p < s.size
  · obtain ⟨hp0, hp1⟩ := hp
    obtain ⟨p, rfl⟩ := Int.eq_ofNat_of_zero_le hp0
    have hp2 : p < s.size := by omega
    clear hp0 hp1
    have hin : btw (p : Int) 0 ((s.size : Int) - 1) = true := by simp [btw]; omega
    have hbad := hide (decOp_bad s p hp2)
    have hgood := hide (decOp_good s p hp2)
    have hq := s[p].toNat_lt
    obtain ⟨c, hc⟩ : ∃ c : Int, c = ((s[p].toNat : Nat) : Int) := ⟨_, rfl⟩
    have HC := hide hc
    rw [← hc] at hbad hgood
    have hw4 := opW_le c
    cases hb : btw c 0 17
    · have h0 : (opSizeF ((s[p].toNat : Nat) : Int) == 0) = true := by rw [← hc, opSize_zero, hb]; rfl
      have hfin := hide (hbad.out (by simp [hb]))
      clear hc
      go_enter Try.func77, Try.ntmps77
      go_wp2_with (first | (go_at_call 32; refine (i_between _ _ _ _).mono ?_; rintro e w' ⟨rfl, rfl⟩) | (go_at_call 74; refine (i_opSize _ _).mono ?_; rintro e w' ⟨rfl, rfl⟩))
      refine bodyPost_ret (v := .tuple #[.agg #[.int .i64 0, .int .i64 0], .int .i64 0, .bool false]) (by simp [results, Try.results77, go_sem]) rfl ⟨?_, by repeat (first | exact Below.refl _ _ | refine Below.alloc ?_ (by first | (simp; done) | (simp; omega)) _ | refine Below.drew ?_ | refine below_drewN ?_ _ | refine Below.setCell ?_ (by first | (simp; done) | (simp; omega)) _)⟩
      rw [hfin.out]; rfl
    · have h0 : opSizeF ((s[p].toNat : Nat) : Int) = opW c + 1 := by rw [← hc]; exact opSize_in hb
      have h0' : (((opW c : Nat) : Int) + 1 == 0) = false := by rw [beq_eq_false_iff_ne]; omega
      by_cases hsz : p + 1 + opW c ≤ s.size
      · have hfin := hide (hgood.out ⟨hb, hsz⟩)
        clear hc
        go_enter Try.func77, Try.ntmps77
        go_wp2_with (first | (go_at_call 32; refine (i_between _ _ _ _).mono ?_; rintro e w' ⟨rfl, rfl⟩) | (go_at_call 74; refine (i_opSize _ _).mono ?_; rintro e w' ⟨rfl, rfl⟩))
        rw [← HC.out]
        refine (i_argument c _).mono ?_
        rintro e w' ⟨rfl, rfl⟩
        clear HC h0 hq
        go_wp2
        go_loopw [11] (fun i wr => ∃ k : Nat, k ≤ opW c ∧ i = .int .i64 k ∧ Blk wr w.heap.size 47 #[.int .i64 0, .int .i64 0] ∧ Blk wr (w.heap.size + 1) 47 #[.int .i64 c, .int .i64 (rawF s.data.toList (p + 1) k)] ∧ Below w.heap.size w wr) (fun i _ => opW c - (intOf i).toNat)
        case atStart => exact ⟨0, Nat.zero_le _, rfl, (Blk.new w _ _).alloc _, by have h := Blk.new (w.alloc (.cells #[.int .i64 0, .int .i64 0] 47)) 47 #[.int .i64 c, .int .i64 0]; simpa [rawF] using h, by repeat (first | exact Below.refl _ _ | refine Below.alloc ?_ (by first | (simp; done) | (simp; omega)) _ | refine Below.drew ?_ | refine below_drewN ?_ _ | refine Below.setCell ?_ (by first | (simp; done) | (simp; omega)) _)⟩
        case round =>
          obtain ⟨k, hk, rfl, hb1, hb2, hb⟩ := hrel
          have c0 := hb2.cell 0
          have c1 := hb2.cell 1
          have f0 := hb2.frozen 0
          have f1 := hb2.frozen 1
          simp at c0 c1
          have HB1 := hide hb1
          have HB2 := hide hb2
          have HB := hide hb
          clear hb1 hb2 hb
          by_cases hlt : k < opW c
          · have q0 : 0 ≤ (p : Int) + 1 + k := by omega
            have q1 : (p : Int) + 1 + k < s.size := by omega
            go_wp2
            have hor := hide (raw_or s p k (by omega) (by omega))
            go_region
            go_wp2
            go_roundw
            case rel =>
              rw [hor.out]
              refine ⟨k + 1, by omega, by go_num, HB1.out.far (p := ⟨w.heap.size + 1, 1, none⟩) (by simp) _, ?_, (HB.out.setCell (p := ⟨w.heap.size + 1, 1, none⟩) (by simp) _).drew⟩
              exact HB2.out.set_ 1 (.int .i64 ((rawF s.data.toList (p + 1) (k + 1) : Nat) : Int))
            case measure => simp [intOf]; omega
          · have hke : k = opW c := by omega
            subst hke
            have hr : ((rawF s.data.toList (p + 1) (opW c) : Nat) : Int) < 4294967296 := by have := raw_bound s.data.toList (p + 1) (opW c) hw4; omega
            have d0 := HB1.out.cell 0
            have d1 := HB1.out.cell 1
            have g0 := HB1.out.frozen 0
            have g1 := HB1.out.frozen 1
            simp at d0 d1
            have hfin2 : Hid (∀ W S r, opW c = W → opS c = S → rawF s.data.toList (p + 1) (opW c) = r → decV (decOpF s.data.toList (p : Int)) = .tuple #[.agg #[.int .i64 c, .int .i64 (argF S W r)], .int .i64 ((W : Int) + 1), .bool true]) := by
              rintro W S r rfl rfl rfl
              rw [hfin.out]; rfl
            clear hlt hk
            generalize rawF s.data.toList (p + 1) (opW c) = r at *
            rcases opCases c with ⟨hW, hS⟩ | ⟨hW, hS⟩ | ⟨hW, hS⟩ | ⟨hW, hS⟩ | ⟨hW, hS⟩
            all_goals have hfin3 := hide (hfin2.out _ _ _ hW hS rfl)
            all_goals clear hw4
            all_goals simp only [hW, hS]
            · have e1 : IntKind.i64.wrap 32 = 32 := by decide
              have e2 : IntKind.i64.wrap 31 = 31 := by decide
              have e3 : IntKind.i64.wrap 2147483648 = 2147483648 := by decide
              have e4 : IntKind.i64.wrap 4294967296 = 4294967296 := by decide
              by_cases hge : 2147483648 ≤ (r : Int)
              · have hfin4 : Hid (argF true 4 r = (r : Int) - 4294967296) := by unfold argF; rw [if_pos ⟨rfl, by omega⟩]; rfl
                go_wp2_with fail
                go_quiet (fail)
                go_wp2_with fail
                go_region
                go_wp2
                refine bodyPost_ret (v := .tuple #[.agg #[.int .i64 c, .int .i64 ((r : Int) - 4294967296)], .int .i64 5, .bool true]) (by simp [results, Try.results77, go_sem, d0, d1]) rfl ⟨?_, ?_⟩
                · rw [hfin3.out, hfin4.out]; rfl
                · exact (((below_drewN HB.out _).setCell (p := ⟨w.heap.size + 1, 1, none⟩) (by simp) _).setCell (p := ⟨w.heap.size, 0, none⟩) (by simp) _).setCell (p := ⟨w.heap.size, 1, none⟩) (by simp) _
              · have hfin4 : Hid (argF true 4 r = (r : Int)) := by
                  show argF true 4 r = (r : Int)
                  unfold argF; rw [if_neg (fun h => hge (by have := h.2; omega))]
                have hd := decide_eq_false hge
                clear hge
                go_wp2_with fail
                go_quiet (fail)
                go_wp2
                refine bodyPost_ret (v := .tuple #[.agg #[.int .i64 c, .int .i64 (r : Int)], .int .i64 5, .bool true]) (by simp [results, Try.results77, go_sem, d0, d1]) rfl ⟨?_, ?_⟩
                · rw [hfin3.out, hfin4.out]; rfl
                · exact ((below_drewN HB.out _).setCell (p := ⟨w.heap.size, 0, none⟩) (by simp) _).setCell (p := ⟨w.heap.size, 1, none⟩) (by simp) _
            · have e1 : IntKind.i64.wrap 16 = 16 := by decide
              have e2 : IntKind.i64.wrap 15 = 15 := by decide
              have e3 : IntKind.i64.wrap 32768 = 32768 := by decide
              have e4 : IntKind.i64.wrap 65536 = 65536 := by decide
              by_cases hge : 32768 ≤ (r : Int)
              · have hfin4 : Hid (argF true 2 r = (r : Int) - 65536) := by unfold argF; rw [if_pos ⟨rfl, by omega⟩]; rfl
                go_wp2_with fail
                go_quiet (fail)
                go_wp2_with fail
                go_region
                go_wp2
                refine bodyPost_ret (v := .tuple #[.agg #[.int .i64 c, .int .i64 ((r : Int) - 65536)], .int .i64 3, .bool true]) (by simp [results, Try.results77, go_sem, d0, d1]) rfl ⟨?_, ?_⟩
                · rw [hfin3.out, hfin4.out]; rfl
                · exact (((below_drewN HB.out _).setCell (p := ⟨w.heap.size + 1, 1, none⟩) (by simp) _).setCell (p := ⟨w.heap.size, 0, none⟩) (by simp) _).setCell (p := ⟨w.heap.size, 1, none⟩) (by simp) _
              · have hfin4 : Hid (argF true 2 r = (r : Int)) := by
                  show argF true 2 r = (r : Int)
                  unfold argF; rw [if_neg (fun h => hge (by have := h.2; omega))]
                have hd := decide_eq_false hge
                clear hge
                go_wp2_with fail
                go_quiet (fail)
                go_wp2
                refine bodyPost_ret (v := .tuple #[.agg #[.int .i64 c, .int .i64 (r : Int)], .int .i64 3, .bool true]) (by simp [results, Try.results77, go_sem, d0, d1]) rfl ⟨?_, ?_⟩
                · rw [hfin3.out, hfin4.out]; rfl
                · exact ((below_drewN HB.out _).setCell (p := ⟨w.heap.size, 0, none⟩) (by simp) _).setCell (p := ⟨w.heap.size, 1, none⟩) (by simp) _
            · have hfin4 : Hid (argF false 2 r = (r : Int)) := by
                show argF false 2 r = (r : Int)
                unfold argF; rw [if_neg (fun h => by simp at h)]
              go_wp2_with fail
              go_quiet (fail)
              go_wp2
              refine bodyPost_ret (v := .tuple #[.agg #[.int .i64 c, .int .i64 (r : Int)], .int .i64 3, .bool true]) (by simp [results, Try.results77, go_sem, d0, d1]) rfl ⟨?_, ?_⟩
              · rw [hfin3.out, hfin4.out]; rfl
              · exact ((below_drewN HB.out _).setCell (p := ⟨w.heap.size, 0, none⟩) (by simp) _).setCell (p := ⟨w.heap.size, 1, none⟩) (by simp) _
            · have hfin4 : Hid (argF false 1 r = (r : Int)) := by
                show argF false 1 r = (r : Int)
                unfold argF; rw [if_neg (fun h => by simp at h)]
              go_wp2_with fail
              go_quiet (fail)
              go_wp2
              refine bodyPost_ret (v := .tuple #[.agg #[.int .i64 c, .int .i64 (r : Int)], .int .i64 2, .bool true]) (by simp [results, Try.results77, go_sem, d0, d1]) rfl ⟨?_, ?_⟩
              · rw [hfin3.out, hfin4.out]; rfl
              · exact ((below_drewN HB.out _).setCell (p := ⟨w.heap.size, 0, none⟩) (by simp) _).setCell (p := ⟨w.heap.size, 1, none⟩) (by simp) _
            · have hfin4 : Hid (argF false 0 r = (r : Int)) := by
                show argF false 0 r = (r : Int)
                unfold argF; rw [if_neg (fun h => by simp at h)]
              go_wp2_with fail
              go_quiet (fail)
              go_wp2
              refine bodyPost_ret (v := .tuple #[.agg #[.int .i64 c, .int .i64 (r : Int)], .int .i64 1, .bool true]) (by simp [results, Try.results77, go_sem, d0, d1]) rfl ⟨?_, ?_⟩
              · rw [hfin3.out, hfin4.out]; rfl
              · exact ((below_drewN HB.out _).setCell (p := ⟨w.heap.size, 0, none⟩) (by simp) _).setCell (p := ⟨w.heap.size, 1, none⟩) (by simp) _
      · have hfin := hide (hbad.out (fun h => hsz h.2))
        clear hc
        go_enter Try.func77, Try.ntmps77
        go_wp2_with (first | (go_at_call 32; refine (i_between _ _ _ _).mono ?_; rintro e w' ⟨rfl, rfl⟩) | (go_at_call 74; refine (i_opSize _ _).mono ?_; rintro e w' ⟨rfl, rfl⟩))
        refine bodyPost_ret (v := .tuple #[.agg #[.int .i64 0, .int .i64 0], .int .i64 0, .bool false]) (by simp [results, Try.results77, go_sem]) rfl ⟨?_, by repeat (first | exact Below.refl _ _ | refine Below.alloc ?_ (by first | (simp; done) | (simp; omega)) _ | refine Below.drew ?_ | refine below_drewN ?_ _ | refine Below.setCell ?_ (by first | (simp; done) | (simp; omega)) _)⟩
        rw [hfin.out]; rfl
  · have hin : btw p 0 ((s.size : Int) - 1) = false := by simp [btw]; omega
    have hfin := hide (decOp_out s.data.toList p (by rw [len_toList]; exact hp))
    clear hp
    go_enter Try.func77, Try.ntmps77
    go_wp2_with (go_at_call 32; refine (i_between _ _ _ _).mono ?_; rintro e w' ⟨rfl, rfl⟩)
    refine bodyPost_ret (v := .tuple #[.agg #[.int .i64 0, .int .i64 0], .int .i64 0, .bool false]) (by simp [results, Try.results77, go_sem]) rfl ⟨?_, by repeat (first | exact Below.refl _ _ | refine Below.alloc ?_ (by first | (simp; done) | (simp; omega)) _ | refine Below.drew ?_ | refine below_drewN ?_ _ | refine Below.setCell ?_ (by first | (simp; done) | (simp; omega)) _)⟩
    rw [hfin.out]; rfl
set_option maxHeartbeats 1000000 in
theorem s_decodeOp (s : ByteArray) (hs : s.size ≤ 1073741824) (p : Int) (w : World) :
    Calls Try.prog 20 #[.string s, .int .i64 p] w fun e w' => e = .returned (decV (decOpF s.data.toList p)) ∧ Below w.heap.size w w' := by
  by_cases hp : 0 ≤ p ∧ p < s.size
  · obtain ⟨hp0, hp1⟩ := hp
    obtain ⟨p, rfl⟩ := Int.eq_ofNat_of_zero_le hp0
    have hp2 : p < s.size := by omega
    clear hp0 hp1
    have hbad := hide (decOp_bad s p hp2)
    have hgood := hide (decOp_good s p hp2)
    have hq := s[p].toNat_lt
    obtain ⟨c, hc⟩ : ∃ c : Int, c = ((s[p].toNat : Nat) : Int) := ⟨_, rfl⟩
    have HC := hide hc
    rw [← hc] at hbad hgood
    have hw4 := opW_le c
    cases hb : btw c 0 17
    · have h0 : (opSizeF c == 0) = true := by rw [opSize_zero, hb]; rfl
      have hfin := hide (hbad.out (by simp [hb]))
      clear hc
      go_enter Try.func20, Try.ntmps20
      go_wp2_with fail
      rw [← HC.out]
      refine (s_width c _).mono ?_
      rintro e w' ⟨rfl, rfl⟩
      go_wp2_with fail
      refine (s_opSize c _).mono ?_
      rintro e w' ⟨rfl, rfl⟩
      go_wp2
      refine bodyPost_ret (v := .tuple #[.agg #[.int .i64 0, .int .i64 0], .int .i64 0, .bool false]) (by simp [results, Try.results20, go_sem]) rfl ⟨?_, by repeat (first | exact Below.refl _ _ | refine Below.alloc ?_ (by first | (simp; done) | (simp; omega)) _ | refine Below.drew ?_ | refine below_drewN ?_ _ | refine Below.setCell ?_ (by first | (simp; done) | (simp; omega)) _)⟩
      rw [hfin.out]; rfl
    · have h0 : opSizeF c = opW c + 1 := opSize_in hb
      have h0' : (((opW c : Nat) : Int) + 1 == 0) = false := by rw [beq_eq_false_iff_ne]; omega
      by_cases hsz : p + 1 + opW c ≤ s.size
      · have hfin := hide (hgood.out ⟨hb, hsz⟩)
        clear hc
        go_enter Try.func20, Try.ntmps20
        go_wp2_with fail
        rw [← HC.out]
        refine (s_width c _).mono ?_
        rintro e w' ⟨rfl, rfl⟩
        go_wp2_with fail
        refine (s_opSize c _).mono ?_
        rintro e w' ⟨rfl, rfl⟩
        clear HC hq
        go_wp2
        clear h0
        go_loopw [10] (fun i wr => ∃ k : Nat, k ≤ opW c ∧ i = .int .i64 k ∧ Blk wr w.heap.size 47 #[.int .i64 0, .int .i64 0] ∧ Blk wr (w.heap.size + 1) 47 #[.int .i64 c, .int .i64 (rawF s.data.toList (p + 1) k)] ∧ Below w.heap.size w wr) (fun i _ => opW c - (intOf i).toNat)
        case atStart => exact ⟨0, Nat.zero_le _, rfl, (Blk.new w _ _).alloc _, by have h := Blk.new (w.alloc (.cells #[.int .i64 0, .int .i64 0] 47)) 47 #[.int .i64 c, .int .i64 0]; simpa [rawF] using h, by repeat (first | exact Below.refl _ _ | refine Below.alloc ?_ (by first | (simp; done) | (simp; omega)) _ | refine Below.drew ?_ | refine below_drewN ?_ _ | refine Below.setCell ?_ (by first | (simp; done) | (simp; omega)) _)⟩
        case round =>
          obtain ⟨k, hk, rfl, hb1, hb2, hb⟩ := hrel
          have c0 := hb2.cell 0
          have c1 := hb2.cell 1
          have f0 := hb2.frozen 0
          have f1 := hb2.frozen 1
          simp at c0 c1
          have HB1 := hide hb1
          have HB2 := hide hb2
          have HB := hide hb
          clear hb1 hb2 hb
          by_cases hlt : k < opW c
          · have q0 : 0 ≤ (p : Int) + 1 + k := by omega
            have q1 : (p : Int) + 1 + k < s.size := by omega
            go_wp2
            have hor := hide (raw_add s p k (by omega) (by omega))
            go_region
            go_wp2
            go_roundw
            case rel =>
              rw [hor.out]
              refine ⟨k + 1, by omega, by go_num, HB1.out.far (p := ⟨w.heap.size + 1, 1, none⟩) (by simp) _, ?_, (HB.out.setCell (p := ⟨w.heap.size + 1, 1, none⟩) (by simp) _).drew⟩
              exact HB2.out.set_ 1 (.int .i64 ((rawF s.data.toList (p + 1) (k + 1) : Nat) : Int))
            case measure => simp [intOf]; omega
          · have hke : k = opW c := by omega
            subst hke
            have hr : ((rawF s.data.toList (p + 1) (opW c) : Nat) : Int) < 4294967296 := by have := raw_bound s.data.toList (p + 1) (opW c) hw4; omega
            have d0 := HB1.out.cell 0
            have d1 := HB1.out.cell 1
            have g0 := HB1.out.frozen 0
            have g1 := HB1.out.frozen 1
            simp at d0 d1
            have hfin2 : Hid (∀ W S r, opW c = W → opS c = S → rawF s.data.toList (p + 1) (opW c) = r → decV (decOpF s.data.toList (p : Int)) = .tuple #[.agg #[.int .i64 c, .int .i64 (argF S W r)], .int .i64 ((W : Int) + 1), .bool true]) := by
              rintro W S r rfl rfl rfl
              rw [hfin.out]; rfl
            clear hlt hk
            generalize rawF s.data.toList (p + 1) (opW c) = r at *
            rcases opCases c with ⟨hW, hS⟩ | ⟨hW, hS⟩ | ⟨hW, hS⟩ | ⟨hW, hS⟩ | ⟨hW, hS⟩
            all_goals have hfin3 := hide (hfin2.out _ _ _ hW hS rfl)
            all_goals clear hw4
            all_goals simp only [hW, hS]
            · have e1 : IntKind.i64.wrap 32 = 32 := by decide
              have e2 : IntKind.i64.wrap 31 = 31 := by decide
              have e3 : IntKind.i64.wrap 2147483648 = 2147483648 := by decide
              have e4 : IntKind.i64.wrap 4294967296 = 4294967296 := by decide
              by_cases hge : 2147483648 ≤ (r : Int)
              · have hfin4 : Hid (argF true 4 r = (r : Int) - 4294967296) := by unfold argF; rw [if_pos ⟨rfl, by omega⟩]; rfl
                go_wp2_with fail
                go_quiet (fail)
                go_wp2_with fail
                go_region
                go_wp2
                refine bodyPost_ret (v := .tuple #[.agg #[.int .i64 c, .int .i64 ((r : Int) - 4294967296)], .int .i64 5, .bool true]) (by simp [results, Try.results20, go_sem, d0, d1]) rfl ⟨?_, ?_⟩
                · rw [hfin3.out, hfin4.out]; rfl
                · exact (((below_drewN HB.out _).setCell (p := ⟨w.heap.size + 1, 1, none⟩) (by simp) _).setCell (p := ⟨w.heap.size, 0, none⟩) (by simp) _).setCell (p := ⟨w.heap.size, 1, none⟩) (by simp) _
              · have hfin4 : Hid (argF true 4 r = (r : Int)) := by
                  show argF true 4 r = (r : Int)
                  unfold argF; rw [if_neg (fun h => hge (by have := h.2; omega))]
                have hd := decide_eq_false hge
                clear hge
                go_wp2_with fail
                go_quiet (fail)
                go_wp2
                refine bodyPost_ret (v := .tuple #[.agg #[.int .i64 c, .int .i64 (r : Int)], .int .i64 5, .bool true]) (by simp [results, Try.results20, go_sem, d0, d1]) rfl ⟨?_, ?_⟩
                · rw [hfin3.out, hfin4.out]; rfl
                · exact ((below_drewN HB.out _).setCell (p := ⟨w.heap.size, 0, none⟩) (by simp) _).setCell (p := ⟨w.heap.size, 1, none⟩) (by simp) _
            · have e1 : IntKind.i64.wrap 16 = 16 := by decide
              have e2 : IntKind.i64.wrap 15 = 15 := by decide
              have e3 : IntKind.i64.wrap 32768 = 32768 := by decide
              have e4 : IntKind.i64.wrap 65536 = 65536 := by decide
              by_cases hge : 32768 ≤ (r : Int)
              · have hfin4 : Hid (argF true 2 r = (r : Int) - 65536) := by unfold argF; rw [if_pos ⟨rfl, by omega⟩]; rfl
                go_wp2_with fail
                go_quiet (fail)
                go_wp2_with fail
                go_region
                go_wp2
                refine bodyPost_ret (v := .tuple #[.agg #[.int .i64 c, .int .i64 ((r : Int) - 65536)], .int .i64 3, .bool true]) (by simp [results, Try.results20, go_sem, d0, d1]) rfl ⟨?_, ?_⟩
                · rw [hfin3.out, hfin4.out]; rfl
                · exact (((below_drewN HB.out _).setCell (p := ⟨w.heap.size + 1, 1, none⟩) (by simp) _).setCell (p := ⟨w.heap.size, 0, none⟩) (by simp) _).setCell (p := ⟨w.heap.size, 1, none⟩) (by simp) _
              · have hfin4 : Hid (argF true 2 r = (r : Int)) := by
                  show argF true 2 r = (r : Int)
                  unfold argF; rw [if_neg (fun h => hge (by have := h.2; omega))]
                have hd := decide_eq_false hge
                clear hge
                go_wp2_with fail
                go_quiet (fail)
                go_wp2
                refine bodyPost_ret (v := .tuple #[.agg #[.int .i64 c, .int .i64 (r : Int)], .int .i64 3, .bool true]) (by simp [results, Try.results20, go_sem, d0, d1]) rfl ⟨?_, ?_⟩
                · rw [hfin3.out, hfin4.out]; rfl
                · exact ((below_drewN HB.out _).setCell (p := ⟨w.heap.size, 0, none⟩) (by simp) _).setCell (p := ⟨w.heap.size, 1, none⟩) (by simp) _
            · have hfin4 : Hid (argF false 2 r = (r : Int)) := by
                show argF false 2 r = (r : Int)
                unfold argF; rw [if_neg (fun h => by simp at h)]
              go_wp2_with fail
              go_quiet (fail)
              go_wp2
              refine bodyPost_ret (v := .tuple #[.agg #[.int .i64 c, .int .i64 (r : Int)], .int .i64 3, .bool true]) (by simp [results, Try.results20, go_sem, d0, d1]) rfl ⟨?_, ?_⟩
              · rw [hfin3.out, hfin4.out]; rfl
              · exact ((below_drewN HB.out _).setCell (p := ⟨w.heap.size, 0, none⟩) (by simp) _).setCell (p := ⟨w.heap.size, 1, none⟩) (by simp) _
            · have hfin4 : Hid (argF false 1 r = (r : Int)) := by
                show argF false 1 r = (r : Int)
                unfold argF; rw [if_neg (fun h => by simp at h)]
              go_wp2_with fail
              go_quiet (fail)
              go_wp2
              refine bodyPost_ret (v := .tuple #[.agg #[.int .i64 c, .int .i64 (r : Int)], .int .i64 2, .bool true]) (by simp [results, Try.results20, go_sem, d0, d1]) rfl ⟨?_, ?_⟩
              · rw [hfin3.out, hfin4.out]; rfl
              · exact ((below_drewN HB.out _).setCell (p := ⟨w.heap.size, 0, none⟩) (by simp) _).setCell (p := ⟨w.heap.size, 1, none⟩) (by simp) _
            · have hfin4 : Hid (argF false 0 r = (r : Int)) := by
                show argF false 0 r = (r : Int)
                unfold argF; rw [if_neg (fun h => by simp at h)]
              go_wp2_with fail
              go_quiet (fail)
              go_wp2
              refine bodyPost_ret (v := .tuple #[.agg #[.int .i64 c, .int .i64 (r : Int)], .int .i64 1, .bool true]) (by simp [results, Try.results20, go_sem, d0, d1]) rfl ⟨?_, ?_⟩
              · rw [hfin3.out, hfin4.out]; rfl
              · exact ((below_drewN HB.out _).setCell (p := ⟨w.heap.size, 0, none⟩) (by simp) _).setCell (p := ⟨w.heap.size, 1, none⟩) (by simp) _
      · have hfin := hide (hbad.out (fun h => hsz h.2))
        clear hc
        go_enter Try.func20, Try.ntmps20
        go_wp2_with fail
        rw [← HC.out]
        refine (s_width c _).mono ?_
        rintro e w' ⟨rfl, rfl⟩
        go_wp2_with fail
        refine (s_opSize c _).mono ?_
        rintro e w' ⟨rfl, rfl⟩
        go_wp2
        refine bodyPost_ret (v := .tuple #[.agg #[.int .i64 0, .int .i64 0], .int .i64 0, .bool false]) (by simp [results, Try.results20, go_sem]) rfl ⟨?_, by repeat (first | exact Below.refl _ _ | refine Below.alloc ?_ (by first | (simp; done) | (simp; omega)) _ | refine Below.drew ?_ | refine below_drewN ?_ _ | refine Below.setCell ?_ (by first | (simp; done) | (simp; omega)) _)⟩
        rw [hfin.out]; rfl
  · have hfin := hide (decOp_out s.data.toList p (by rw [len_toList]; exact hp))
    by_cases hp0 : p < 0
    · clear hp
      go_enter Try.func20, Try.ntmps20
      go_wp2_with fail
      refine bodyPost_ret (v := .tuple #[.agg #[.int .i64 0, .int .i64 0], .int .i64 0, .bool false]) (by simp [results, Try.results20, go_sem]) rfl ⟨?_, by repeat (first | exact Below.refl _ _ | refine Below.alloc ?_ (by first | (simp; done) | (simp; omega)) _ | refine Below.drew ?_ | refine below_drewN ?_ _ | refine Below.setCell ?_ (by first | (simp; done) | (simp; omega)) _)⟩
      rw [hfin.out]; rfl
    · have hp1 : (s.size : Int) ≤ p := by omega
      have hp2 : 0 ≤ p := by omega
      clear hp hp0
      go_enter Try.func20, Try.ntmps20
      go_wp2_with fail
      refine bodyPost_ret (v := .tuple #[.agg #[.int .i64 0, .int .i64 0], .int .i64 0, .bool false]) (by simp [results, Try.results20, go_sem]) rfl ⟨?_, by repeat (first | exact Below.refl _ _ | refine Below.alloc ?_ (by first | (simp; done) | (simp; omega)) _ | refine Below.drew ?_ | refine below_drewN ?_ _ | refine Below.setCell ?_ (by first | (simp; done) | (simp; omega)) _)⟩
      rw [hfin.out]; rfl
end Go.Proofs.Ytcfjbaanahgpoaa
