/- The walk of the law on SectorRead. -/
import Derived.Test.YtblenfhacaecmaaSecR3
import Derived.Deep.RegionHeld3
namespace Go.Proofs.Ytblenfhacaecmaa
open Go.RowKit
theorem SecR.get {l : List UInt8} {w w' : World} {e : Ending} (h : SecR l w e w') {gd : Bool} {q p m : Nat} {B : List UInt8} (h0 : secGood l = gd) (h1 : (if secGood l then rdQ l else 0) = q) (h2 : (if secGood l then rdP l else 0) = p) (h3 : (if secGood l then rdM l else 0) = m) (h4 : (if secGood l then rdB l else []) = B) :
    ∃ A c, e = .returned (.tuple #[.agg #[.int .i64 (q : Int), .int .i64 (p : Int), .slice A m c], .bool gd]) ∧ OwnB w' w.heap.size w'.heap.size A m c B ∧ Below w.heap.size w w' := by
  obtain ⟨A, c, he, ho, hb⟩ := h
  rw [h1, h2, h3, h0] at he
  rw [h3, h4] at ho
  exact ⟨A, c, he, ho, hb⟩
theorem rdM_lt (l : List UInt8) : (if secGood l then rdM l else 0) ≤ 255 := by
  have := (l.getD 7 0).toNat_lt
  unfold rdM
  split <;> omega
end Go.Proofs.Ytblenfhacaecmaa
