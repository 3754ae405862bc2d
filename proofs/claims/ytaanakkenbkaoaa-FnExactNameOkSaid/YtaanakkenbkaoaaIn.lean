/- What an argument of a law reads as: for each parameter type a predicate, and that a reading gives it. -/
import Derived.Test.YtaanakkenbkaoaaRows
import Derived.Test.YtaanakkenbkaoaaBase
import Derived.ProofKit
import Derived.OpenShut
import Derived.ShutString
import Derived.ChangeOld
import Derived.Below
import Derived.Lib.SmallJoins
namespace Go.Proofs.Ytaanakkenbkaoaa
open Go.ChangeShapes Go.WideShapes Go.ChangeAt Go.RowKit
open Go.ChangeMaps (open_string shut_string)

theorem In.own : ownKnob Try.prog.godebug = none := by kernel_rfl
theorem In.laidOut : laidOutB Try.prog = true := by kernel_rfl

section
variable {H : Type} {enc : TypeId × Value → H} {W : World} {base : Nat} {v : Value} {d : DataW H} {p : List MemPlace}

def InInt (_w : World) (v : Value) : Prop := ∃ a : Int, v = .int .i64 a ∧ -9223372036854775808 ≤ a ∧ a ≤ 9223372036854775807
theorem inInt (hv : Value.okWide Try.prog W .any base 3 v) (h : DataW.Trod enc Try.prog W 0 (fun _ => true) true 3 v d p) : InInt W v := by
  obtain ⟨a, rfl, rfl, rfl, wf⟩ := open_int Try.underlying3 hv h
  exact ⟨a, rfl, by simpa [Lit.wf, IntKind.min, IntKind.max, IntKind.signed, IntKind.bits] using wf⟩
def InString (_w : World) (v : Value) : Prop := ∃ s : ByteArray, v = .string s ∧ s.size ≤ maxLen
theorem inString (hv : Value.okWide Try.prog W .any base 9 v) (h : DataW.Trod enc Try.prog W 0 (fun _ => true) true 9 v d p) : InString W v := by
  obtain ⟨s, rfl, rfl, rfl, ws⟩ := open_string Try.underlying9 hv h
  exact ⟨s, rfl, ws⟩
def InBytes (w : World) (v : Value) : Prop := ∃ (A : Option Addr) (n c : Nat), v = .slice A n c ∧ n ≤ c ∧ c ≤ maxLen ∧ (0 < n → ∃ (ad : Addr) (f : Nat → Int), A = some ad ∧ ∀ i, i < n → w.cell? (ad.add i) = some (.int .u8 (f i)) ∧ 0 ≤ f i ∧ f i ≤ 255)
theorem inBytes (hv : Value.okWide Try.prog W .any base 34 v) (h : DataW.Trod enc Try.prog W 0 (fun _ => true) true 34 v d p) : InBytes W v := by
  obtain ⟨a, n, c, rfl⟩ := okWide_slice Try.underlying34 hv
  obtain ⟨fuel, hf⟩ := h
  rcases open_ints Try.underlying34 Try.underlying5 (by kernel_rfl) hf with ⟨hcs, _⟩ | ⟨x, l, c', zs, hcs, _, hl, hm, hz, _, hcell, hwz⟩
  · simp [Value.cells] at hcs
    obtain ⟨rfl, rfl, rfl⟩ := hcs
    exact ⟨none, 0, 0, rfl, Nat.le_refl _, Nat.zero_le _, fun h => absurd h (by omega)⟩
  · simp [Value.cells] at hcs
    obtain ⟨rfl, rfl, rfl⟩ := hcs
    simp at hz
    refine ⟨some x, n, c, rfl, hl, hm, fun _ => ⟨x, fun i => zs.getD i 0, rfl, fun i hi => ⟨hcell i (by omega), ?_⟩⟩⟩
    have hi' : i < zs.length := by omega
    have hw := hwz (zs.getD i 0) (by rw [List.getD_eq_getElem?_getD, List.getElem?_eq_getElem hi']; exact List.getElem_mem _)
    simpa [Lit.wf, IntKind.min, IntKind.max, IntKind.signed, IntKind.bits] using hw
def InBuild (_w : World) (v : Value) : Prop := ∃ (f i : Int) (x y : Bool), v = .agg #[.int .i64 f, .int .i64 i, .bool x, .bool y]
theorem inBuild (hv : Value.okWide Try.prog W .any base 28 v) (h : DataW.Trod enc Try.prog W 0 (fun _ => true) true 28 v d p) : InBuild W v := by
  obtain ⟨v0, v1, v2, v3, y0, y1, y2, y3, n, rfl, rfl, rfl, h0, h1, h2, h3⟩ := Joins.open_agg4 Try.underlying28 (by kernel_rfl) (by kernel_rfl) hv h
  obtain ⟨a0, e0, rfl, _⟩ := DataW.trod_int Try.underlying3 h0
  obtain ⟨a1, e1, rfl, _⟩ := DataW.trod_int Try.underlying3 h1
  obtain ⟨a2, e2, rfl⟩ := DataW.trod_bool Try.underlying4 h2
  obtain ⟨a3, e3, rfl⟩ := DataW.trod_bool Try.underlying4 h3
  simp at e0 e1 e2 e3
  subst e0 e1 e2 e3
  exact ⟨_, _, _, _, rfl⟩
end
end Go.Proofs.Ytaanakkenbkaoaa
