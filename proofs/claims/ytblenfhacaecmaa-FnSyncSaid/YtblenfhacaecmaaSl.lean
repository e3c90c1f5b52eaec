/- Slices inside slices: an inner slice as a record of its value and its cells. -/
import Derived.Test.YtblenfhacaecmaaVar
namespace Go.Proofs.Ytblenfhacaecmaa
open Go.RowKit
/-- An inner slice: where it lies, its length and capacity, its cells. -/
structure Sl where
  A : Option Addr
  n : Nat
  c : Nat
  xs : List Value
def Sl.v (s : Sl) : Value := .slice s.A s.n s.c
end Go.Proofs.Ytblenfhacaecmaa
