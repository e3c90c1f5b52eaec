/- putNum, PutNum: program and reference. -/
import Derived.Test.YtgjphejmppehjaaNum
namespace Go.Proofs.Ytgjphejmppehjaa
open Go.RowKit

/-- A number as s bytes, the greatest first. -/
def digs (n : Nat) : Nat → List UInt8
  | 0 => []
  | s + 1 => UInt8.ofNat (n / 256 ^ s) :: digs n s
theorem digs_len (n : Nat) : ∀ s, (digs n s).length = s
  | 0 => rfl
  | s + 1 => by simp [digs, digs_len n s]

theorem digs_pos (n : Nat) {j : Nat} (h : 1 ≤ j) : digs n j = UInt8.ofNat (n / 256 ^ (j - 1)) :: digs n (j - 1) := by
  obtain ⟨k, rfl⟩ : ∃ k, j = k + 1 := ⟨j - 1, by omega⟩
  rfl
theorem dig_val (n k : Nat) : (n : Int) / 2 ^ (8 * k) % 256 = ((UInt8.ofNat (n / 256 ^ k)).toNat : Int) := by
  rw [UInt8.toNat_ofNat', show 256 ^ k = 2 ^ (8 * k) from by rw [Nat.pow_mul]]
  simp
theorem bytes_snoc (l : List UInt8) (b : UInt8) {z : Int} (h : z = (b.toNat : Int)) : Lib.byteCells l ++ [Value.int .u8 z] = Lib.byteCells (l ++ [b]) := by
  subst h; simp [Lib.byteCells]

/-- What appends bytes to a row of the call's own leaves. -/
def AppB (lo m : Nat) (l : List UInt8) (w : World) (e : Ending) (w' : World) : Prop :=
  ∃ A c, e = .returned (.slice A m c) ∧ OwnB w' lo w'.heap.size A m c l ∧ Below lo w w'


theorem digs_bytes_len (l : List UInt8) (n s m : Nat) (h : l.length = m) : (l ++ digs n s).length = m + s := by rw [List.length_append, digs_len, h]

/-- What PutNum gives: nothing, or the bytes. -/
def putOk (n s : Int) : Bool := inB s 1 7 && decide (0 ≤ n) && decide (n < 256 ^ s.toNat)
theorem putOk_s {n s : Int} (h : inB s 1 7 = false) : putOk n s = false := by simp [putOk, h]
theorem putOk_n {n s : Int} (h : n < 0) : putOk n s = false := by
  have : ¬ 0 ≤ n := by omega
  simp [putOk, this]
theorem putOk_big {n : Int} {s : Nat} (h : (256 ^ s : Nat) ≤ n) : putOk n s = false := by
  have h' : ¬ n < ((256 ^ s : Nat) : Int) := by omega
  rw [Int.natCast_pow] at h'
  simp only [putOk, Int.toNat_natCast, Bool.and_eq_false_iff, decide_eq_false_iff_not]
  exact .inr h'
theorem putOk_yes {n s : Nat} (h1 : 1 ≤ s) (h2 : s ≤ 7) (h : n < 256 ^ s) : putOk n s = true := by
  have h' : (n : Int) < ((256 ^ s : Nat) : Int) := by omega
  rw [Int.natCast_pow] at h'
  simp only [putOk, Int.toNat_natCast, Bool.and_eq_true, decide_eq_true_eq]
  exact ⟨⟨inB_true (by omega) (by omega), by omega⟩, h'⟩

/-- A slice of bytes of the call's own and true; or nil and false. -/
def PutB (n : Nat) (l : List UInt8) (ok : Bool) (w : World) (e : Ending) (w' : World) : Prop :=
  (ok = true ∧ ∃ A c, e = .returned (.tuple #[.slice A n c, .bool true]) ∧ OwnB w' w.heap.size w'.heap.size A n c l ∧ Below w.heap.size w w') ∨
  (ok = false ∧ e = .returned (.tuple #[.slice none 0 0, .bool false]) ∧ Below w.heap.size w w')
theorem PutB.no {n : Nat} {l : List UInt8} {w w' : World} (h : Below w.heap.size w w') : PutB n l false w (.returned (.tuple #[.slice none 0 0, .bool false])) w' := .inr ⟨rfl, rfl, h⟩

theorem PutB.get {n : Nat} {l : List UInt8} {ok : Bool} {w : World} {e : Ending} {w' : World} (h : PutB n l ok w e w') {N : Nat} {L : List UInt8} (hN : (if ok then n else 0) = N) (hL : (if ok then l else []) = L) :
    ∃ A c, e = .returned (.tuple #[.slice A N c, .bool ok]) ∧ OwnB w' w.heap.size w'.heap.size A N c L ∧ Below w.heap.size w w' := by
  rcases h with ⟨rfl, A, c, he, ho, hb⟩ | ⟨rfl, he, hb⟩
  · simp only [if_true] at hN hL
    subst hN hL
    exact ⟨A, c, he, ho, hb⟩
  · simp only [Bool.false_eq_true, if_false] at hN hL
    subst hN hL
    refine ⟨none, 0, he, ?_, hb⟩
    refine ⟨World.ownsRow_nil _ _ _ _, by simp [Value.ownBlock], Nat.le_refl _⟩

end Go.Proofs.Ytgjphejmppehjaa
