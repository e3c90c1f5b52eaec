/- Sectors as bytes: SectorBytes (program and reference). -/
import Derived.Test.YtnjdmmdbminmoaaDoorSec
import Derived.Test.YtnjdmmdbminmoaaDoorApp
namespace Go.Proofs.YtnjdmmdbminmoaaDoor
open Go.RowKit
theorem PutB.yes {n N : Nat} {l : List UInt8} {w : World} {e : Ending} {w' : World} (h : PutB n l true w e w') (hN : n = N := by rfl) :
    ∃ A c, e = .returned (.tuple #[.slice A N c, .bool true]) ∧ OwnB w' w.heap.size w'.heap.size A N c l ∧ Below w.heap.size w w' := by
  subst hN
  rcases h with ⟨_, A, c, he, ho, hb⟩ | ⟨h, _⟩
  · exact ⟨A, c, he, ho, hb⟩
  · cases h
theorem rd_cell {w : World} {b B : Nat} {u : UInt8} {z : Int} (h : w.cell? ⟨b, 0, none⟩ = some (.int .u8 z)) (hb : b < B) (hz : z = (u.toNat : Int) := by rfl) : Rd w B 1 (some ⟨b, 0, none⟩) 1 (Lib.byteCells [u]) := by
  subst hz
  refine ⟨rfl, .inr ⟨b, 0, rfl, hb, fun j v hv => ?_⟩⟩
  match j, hv with
  | 0, hv =>
    simp only [Lib.byteCells, List.map_cons, List.map_nil, List.getElem?_cons_zero, Option.some.injEq] at hv
    subst hv
    exact h
theorem OwnB.of_app {w : World} {lo hi n c : Nat} {A : Option Addr} {l l' : List UInt8} (h : Own 5 1 w lo hi A n c (Lib.byteCells l ++ Lib.byteCells l')) : OwnB w lo hi A n c (l ++ l') := by
  unfold OwnB
  simpa [Lib.byteCells] using h
theorem OwnB.of_zeros {w : World} {lo hi n c m : Nat} {A : Option Addr} {l : List UInt8} (h : Own 5 1 w lo hi A n c (Lib.byteCells l ++ zs m)) : OwnB w lo hi A n c (l ++ List.replicate m 0) := by
  rw [← byteCells_zeros] at h
  exact OwnB.of_app h
/-- The bytes of a sector. -/
def secBytes (Q P n : Nat) (l : List UInt8) : List UInt8 := [74] ++ digs Q 3 ++ digs P 3 ++ digs n 1 ++ l ++ List.replicate (114 - n) 0 ++ digs Q 3 ++ digs P 3
theorem secOk_le {q p : Int} {n : Nat} (h : secOk q p n = true) : 0 ≤ q ∧ q ≤ 599 ∧ 1 ≤ p ∧ p ≤ 16000000 ∧ n ≤ 100 := by
  simp only [secOk, Bool.and_eq_true, decide_eq_true_eq] at h
  have h1 := inB_le h.1.1
  have h2 := inB_le h.1.2
  omega
end Go.Proofs.YtnjdmmdbminmoaaDoor
