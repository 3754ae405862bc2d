import Derived.Test.YtapfbnojodafjaaDoorLinS2
namespace Go.Proofs.YtapfbnojodafjaaDoor
open Go.RowKit
set_option maxRecDepth 100000
theorem drop_step {α : Type} (l : List α) (k : Nat) (h : k < l.length) : l.drop k = l[k] :: l.drop (k + 1) := List.drop_eq_getElem_cons h
def findFrom (s : ByteArray) : List Ln → Nat → Int
  | [], _ => -1
  | x :: L, k => if x.1 = 0 ∧ x.2.1 = s then (k : Int) else findFrom s L (k + 1)
def findF (L : List Ln) (s : ByteArray) : Int := findFrom s L 0
def opensF (k : Int) : Bool := decide (k = 0 ∨ k = 3 ∨ k = 5)
def depF (k : Int) : Int := (if opensF k = true then 1 else 0) - (if k = 7 then 1 else 0)
def endFrom : List Ln → Nat → Int → Int
  | [], _, _ => -1
  | x :: L, i, o => if o + depF x.1 = 0 then (i : Int) else endFrom L (i + 1) (o + depF x.1)
def lnAtD (L : List Ln) (i : Nat) : Ln := L.getD i (1, ByteArray.empty, [], [])
def endOfF (L : List Ln) (k : Int) : Int := if 0 ≤ k ∧ k < L.length ∧ opensF (lnAtD L k.toNat).1 = true then endFrom (L.drop k.toNat) k.toNat 0 else -1
def funsFrom : List Ln → Nat → List Int
  | [], _ => []
  | x :: L, i => if x.1 = 0 then (i : Int) :: funsFrom L (i + 1) else funsFrom L (i + 1)
def funsF (L : List Ln) : List Int := funsFrom L 0
end Go.Proofs.YtapfbnojodafjaaDoor
