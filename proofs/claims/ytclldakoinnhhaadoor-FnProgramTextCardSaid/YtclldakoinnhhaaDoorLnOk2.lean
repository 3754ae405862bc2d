import Derived.Test.YtclldakoinnhhaaDoorLnOk
namespace Go.Proofs.YtclldakoinnhhaaDoor
open Go.RowKit
set_option maxRecDepth 100000
noncomputable def argsF (l : List ByteArray) : Bool := yes (ArgsP l)
noncomputable def lineOkF (x : Ln) : Bool :=
  btw x.1 0 7 && (if x.1 = 0 ∨ x.1 = 1 then nameOkF x.2.1.data.toList else x.2.1.data.toList.isEmpty) && (if x.1 = 0 then argsF x.2.2.1 else decide (x.2.2.1.length = 0)) && (if hasExprF x.1 = true then exprOkF x.2.2.2 else decide (x.2.2.2.length = 0))
theorem lineOk_args {x : Ln} (h : x.1 = 0 → argsF x.2.2.1 = false) (h' : x.1 ≠ 0 → x.2.2.1.length ≠ 0) : lineOkF x = false := by
  unfold lineOkF
  by_cases h0 : x.1 = 0
  · rw [if_pos h0 (c := x.1 = 0), h h0]; simp
  · rw [if_neg h0 (c := x.1 = 0), decide_eq_false (h' h0)]; simp
set_option maxHeartbeats 1000000 in
theorem i_lineOk (x : Ln) (A1 A2 : Option Addr) (c1 c2 : Nat) (w : World) (hn : x.2.2.1.length + x.2.2.2.length ≤ 1048576) (h : LnIn w x A1 c1 A2 c2) (hs : LnSz x) :
    Calls Tryd.prog 19 #[.agg #[.int .i64 x.1, .string x.2.1, .slice A1 x.2.2.1.length c1, .slice A2 x.2.2.2.length c2]] w fun e w' => e = .returned (.bool (lineOkF x)) ∧ Below w.heap.size w w' := by
  obtain ⟨k, s, ar, ex⟩ := x
  obtain ⟨h1, h2, h3, h4, h5, h6⟩ := h
  obtain ⟨s1, s2, s3⟩ := hs
  simp only at h1 h2 h3 h4 h5 h6 s1 s2 s3 hn ⊢
  have H1 := hide h1
  have H2 := hide h2
  have S2 := hide s2
  have S3 := hide s3
  have hn1 : ar.length ≤ 1048576 := by omega
  have hn2 : ex.length ≤ 1048576 := by omega
  clear h1 h2 s2 s3 hn
  cases hx : hasExprF k
  all_goals go_enter Tryd.func19, Tryd.ntmps19
  all_goals go_wp2_with (first | (go_at_call 26; refine (i_between _ _ _ _).mono ?_; rintro e w' ⟨rfl, rfl⟩) | (go_at_call 35; refine (i_nameOk _ s1 _).mono ?_; rintro e w' ⟨rfl, rfl⟩) | (go_at_call 36; refine (i_areArgs A1 _ c1 ar _ hn1 h3 h4 (H1.out.below (by repeat (first | exact Below.refl _ _ | refine Below.alloc ?_ (by first | (simp; done) | (simp; omega)) _ | refine Below.drew ?_ | refine below_drewN ?_ _ | refine Below.setCell ?_ (by first | (simp; done) | (simp; omega)) _))) S2.out).mono ?_; rintro e w' ⟨rfl, rfl⟩) | (go_at_call 37; refine (i_hasExpr _ _).mono ?_; rintro e w' ⟨rfl, rfl⟩) | (go_at_call 10; refine (i_exprOk A2 _ c2 ex _ hn2 rfl (H2.out.below (by repeat (first | exact Below.refl _ _ | refine Below.alloc ?_ (by first | (simp; done) | (simp; omega)) _ | refine Below.drew ?_ | refine below_drewN ?_ _ | refine Below.setCell ?_ (by first | (simp; done) | (simp; omega)) _))) S3.out).mono ?_; rintro e w' ⟨rfl, hb⟩))
  all_goals go_ret
  all_goals refine ⟨ret_bool ?_, by first | ((repeat (first | exact Below.refl _ _ | refine Below.alloc ?_ (by first | (simp; done) | (simp; omega)) _ | refine Below.drew ?_ | refine below_drewN ?_ _ | refine Below.setCell ?_ (by first | (simp; done) | (simp; omega)) _)); done) | (refine Below.trans ?_ (hb.mono (by simp)); repeat (first | exact Below.refl _ _ | refine Below.alloc ?_ (by first | (simp; done) | (simp; omega)) _ | refine Below.drew ?_ | refine below_drewN ?_ _ | refine Below.setCell ?_ (by first | (simp; done) | (simp; omega)) _))⟩
  all_goals go_light
  all_goals clear h3 h4 h5 h6 s1 H1 H2 S2 S3 hn1 hn2
  all_goals simp_all [lineOkF, argsF, hasExprF, ByteArray.toList_eq]
  all_goals first | (cases ex <;> simp_all <;> omega) | (intros; subst_vars; simp_all; done) | omega
end Go.Proofs.YtclldakoinnhhaaDoor
