/- SectorRead: program and reference. -/
import Derived.Test.YtnjdmmdbminmoaaDoorSecB
import Derived.Test.YtnjdmmdbminmoaaDoorStr
import Derived.Test.YtnjdmmdbminmoaaDoorNum
import Derived.Laws.StructEq
namespace Go.Proofs.YtnjdmmdbminmoaaDoor
open Go.RowKit
/-- What the bytes of a sector say. -/
def rdQ (l : List UInt8) : Nat := beNat ((l.drop 1).take 3)
def rdP (l : List UInt8) : Nat := beNat ((l.drop 4).take 3)
def rdM (l : List UInt8) : Nat := (l.getD 7 0).toNat
def rdB (l : List UInt8) : List UInt8 := (l.drop 8).take (rdM l)
def secGood (l : List UInt8) : Bool := decide (l.length = 128) && decide (rdM l ≤ 100) && secOk (rdQ l) (rdP l) (rdM l) && eqL (secBytes (rdQ l) (rdP l) (rdM l) (rdB l)) l
def SecR (l : List UInt8) (w : World) (e : Ending) (w' : World) : Prop :=
  ∃ A c, e = .returned (.tuple #[.agg #[.int .i64 ((if secGood l then rdQ l else 0 : Nat) : Int), .int .i64 ((if secGood l then rdP l else 0 : Nat) : Int), .slice A (if secGood l then rdM l else 0) c], .bool (secGood l)]) ∧
    OwnB w' w.heap.size w'.heap.size A (if secGood l then rdM l else 0) c (if secGood l then rdB l else []) ∧ Below w.heap.size w w'
theorem SecR.no {l : List UInt8} {w w' : World} (h : secGood l = false) (hb : Below w.heap.size w w') : SecR l w (.returned (.tuple #[.agg #[.int .i64 0, .int .i64 0, .slice none 0 0], .bool false])) w' := by
  unfold SecR
  rw [h]
  exact ⟨none, 0, rfl, Own.nil _ _ _ _ _ (Nat.le_refl _), hb⟩
theorem SecR.yes {l : List UInt8} {w w' : World} {Q P m : Nat} {B : List UInt8} {A : Option Addr} {c : Nat} (h : secGood l = true) (hQ : rdQ l = Q) (hP : rdP l = P) (hm : rdM l = m) (hB : rdB l = B) (ho : OwnB w' w.heap.size w'.heap.size A m c B) (hb : Below w.heap.size w w') :
    SecR l w (.returned (.tuple #[.agg #[.int .i64 (Q : Int), .int .i64 (P : Int), .slice A m c], .bool true])) w' := by
  unfold SecR
  rw [h]
  subst hQ hP hm hB
  exact ⟨A, c, rfl, ho, hb⟩
theorem good_len {l : List UInt8} (h : l.length ≠ 128) : secGood l = false := by simp [secGood, h]
theorem good_m {l : List UInt8} (h : 100 < rdM l) : secGood l = false := by
  have : ¬ rdM l ≤ 100 := by omega
  simp [secGood, this]
theorem good_ok {l : List UInt8} (h : secOk (rdQ l) (rdP l) (rdM l) = false) : secGood l = false := by simp [secGood, h]
theorem good_eq {l : List UInt8} (h : secBytes (rdQ l) (rdP l) (rdM l) (rdB l) ≠ l) : secGood l = false := by simp [secGood, eqL, h]
theorem good_yes {l : List UInt8} (h1 : l.length = 128) (h2 : rdM l ≤ 100) (h3 : secOk (rdQ l) (rdP l) (rdM l) = true) (h4 : secBytes (rdQ l) (rdP l) (rdM l) (rdB l) = l) : secGood l = true := by simp [secGood, eqL, h1, h2, h3, h4]
theorem PutB.not {n : Nat} {l : List UInt8} {w : World} {e : Ending} {w' : World} (h : PutB n l false w e w') : e = .returned (.tuple #[.slice none 0 0, .bool false]) ∧ Below w.heap.size w w' := by
  rcases h with ⟨h, _⟩ | ⟨_, h⟩
  · cases h
  · exact h
end Go.Proofs.YtnjdmmdbminmoaaDoor
