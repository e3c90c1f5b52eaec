/- Sectors: SectorOk, toSector, eqSector, szSector, markSector, heldSector. A sector's value: two numbers and a slice of bytes. -/
import Derived.Test.YtgjphejmppehjaaPut
import Derived.Test.YtgjphejmppehjaaVar
import Derived.Lib.SmallJoins
namespace Go.Proofs.Ytgjphejmppehjaa
open Go.RowKit

def secOk (q p : Int) (n : Nat) : Bool := inB q 0 599 && inB p 1 16000000 && decide (n ≤ 100)
theorem ret_boolS {a b : Bool} (h : a = b) : Ending.returned (.bool a) = .returned (.bool b) := by rw [h]
theorem below1s (w : World) (o : Obj) : Below w.heap.size w (w.alloc o) := (Below.refl _ _).alloc (Nat.le_refl _) o

end Go.Proofs.Ytgjphejmppehjaa
