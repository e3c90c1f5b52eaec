/- BodyEvent: program and reference. -/
import Derived.Test.YtnjdmmdbminmoaaDoorEvB
import Derived.Test.YtnjdmmdbminmoaaDoorStr
import Derived.Test.YtnjdmmdbminmoaaDoorSecR
namespace Go.Proofs.YtnjdmmdbminmoaaDoor
open Go.RowKit
theorem below_set7 {W w : World} {u0 u1 u2 u3 u4 u5 u6 : Value} (h : Below W.heap.size W w) :
    Below W.heap.size W (((((((w.setCell ⟨W.heap.size, 0, none⟩ u0).setCell ⟨W.heap.size, 1, none⟩ u1).setCell ⟨W.heap.size, 2, none⟩ u2).setCell ⟨W.heap.size, 3, none⟩ u3).setCell ⟨W.heap.size, 4, none⟩ u4).setCell ⟨W.heap.size, 5, none⟩ u5).setCell ⟨W.heap.size, 6, none⟩ u6) :=
  ((((((h.setCell (Nat.le_refl _) _).setCell (Nat.le_refl _) _).setCell (Nat.le_refl _) _).setCell (Nat.le_refl _) _).setCell (Nat.le_refl _) _).setCell (Nat.le_refl _) _).setCell (Nat.le_refl _) _
/-- Do bytes read as an event that is written so? -/
def evGood (l : List UInt8) : Bool := evOk (getNum l 1 1).1 (getNum l 2 3).1 (getNum l 5 1).1 (getNum l 6 1).1 (getNum l 7 7).1 (getNum l 14 7).1 ((getNum l 21 1).1 == 1) && eqL (evBytes (getNum l 1 1).1.toNat (getNum l 2 3).1.toNat (getNum l 5 1).1.toNat (getNum l 6 1).1.toNat (getNum l 7 7).1.toNat (getNum l 14 7).1.toNat ((getNum l 21 1).1 == 1)) l
def EvR (l : List UInt8) (w : World) (e : Ending) (w' : World) : Prop :=
  e = .returned (.tuple #[.agg #[.int .i64 (if evGood l then (getNum l 1 1).1 else 0), .int .i64 (if evGood l then (getNum l 2 3).1 else 0), .int .i64 (if evGood l then (getNum l 5 1).1 else 0), .int .i64 (if evGood l then (getNum l 6 1).1 else 0), .int .i64 (if evGood l then (getNum l 7 7).1 else 0), .int .i64 (if evGood l then (getNum l 14 7).1 else 0), .bool (if evGood l then (getNum l 21 1).1 == 1 else false)], .bool (evGood l)]) ∧ Below w.heap.size w w'
theorem EvR.no {l : List UInt8} {w w' : World} (h : evGood l = false) (hb : Below w.heap.size w w') : EvR l w (.returned (.tuple #[.agg #[.int .i64 0, .int .i64 0, .int .i64 0, .int .i64 0, .int .i64 0, .int .i64 0, .bool false], .bool false])) w' := by
  unfold EvR
  rw [h]
  exact ⟨rfl, hb⟩
theorem EvR.yes {l : List UInt8} {w w' : World} {v0 : Int} {t0 : Bool} {v1 : Int} {t1 : Bool} {v2 : Int} {t2 : Bool} {v3 : Int} {t3 : Bool} {v4 : Int} {t4 : Bool} {v5 : Int} {t5 : Bool} {v6 : Int} {t6 : Bool} (h : evGood l = true) (H0 : getNum l 1 1 = (v0, t0)) (H1 : getNum l 2 3 = (v1, t1)) (H2 : getNum l 5 1 = (v2, t2)) (H3 : getNum l 6 1 = (v3, t3)) (H4 : getNum l 7 7 = (v4, t4)) (H5 : getNum l 14 7 = (v5, t5)) (H6 : getNum l 21 1 = (v6, t6)) (hb : Below w.heap.size w w') : EvR l w (.returned (.tuple #[.agg #[.int .i64 v0, .int .i64 v1, .int .i64 v2, .int .i64 v3, .int .i64 v4, .int .i64 v5, .bool (v6 == 1)], .bool true])) w' := by
  unfold EvR
  rw [h, H0, H1, H2, H3, H4, H5, H6]
  exact ⟨rfl, hb⟩
end Go.Proofs.YtnjdmmdbminmoaaDoor
