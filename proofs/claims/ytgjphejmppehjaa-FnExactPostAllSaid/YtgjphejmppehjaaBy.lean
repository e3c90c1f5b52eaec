/- Slices of bytes of the call's own: toByteS, eqByteS, markByteS, heldByteS, szByteS, copyBytes. -/
import Derived.Test.YtgjphejmppehjaaOwn
import Derived.Deep.QuietTactic
import Derived.BigQuiet
namespace Go.Proofs.Ytgjphejmppehjaa
open Go.RowKit

theorem info_u8 : (Try.prog.info? 5).map (fun i => (i.zero, i.size, i.bytes)) = some (some (.int .u8 0), 1, 1) := by kernel_rfl

/-- A slice of bytes of the call's own. -/
def OwnB (w : World) (lo hi : Nat) (A : Option Addr) (n c : Nat) (l : List UInt8) : Prop := Own 5 1 w lo hi A n c (Lib.byteCells l)
theorem OwnB.len {w : World} {lo hi : Nat} {A : Option Addr} {n c : Nat} {l : List UInt8} (h : OwnB w lo hi A n c l) : l.length = n := by have := Own.len h; simpa [Lib.byteCells] using this

theorem OwnB.keep {w w' : World} {lo hi lo' hi' : Nat} {A : Option Addr} {n c : Nat} {l : List UInt8} (h : OwnB w lo hi A n c l) (he : Eff lo' hi' w w') (hd : hi ≤ lo' ∨ hi' ≤ lo ∨ hi' ≤ lo') : OwnB w' lo hi A n c l := Own.keep h he hd
theorem OwnB.rd {w : World} {lo hi B : Nat} {A : Option Addr} {n c : Nat} {l : List UInt8} (h : OwnB w lo hi A n c l) (hB : hi ≤ B) : Rd w B 1 A n (Lib.byteCells l) := Own.rd h hB
theorem OwnB.up {w : World} {lo hi : Nat} {A : Option Addr} {n c : Nat} {l : List UInt8} (h : OwnB w lo hi A n c l) : OwnB w lo w.heap.size A n c l := Own.up h
theorem OwnB.row_le {w : World} {lo hi : Nat} {A : Option Addr} {n c : Nat} {l : List UInt8} (h : OwnB w lo hi A n c l) : n ≤ c := (Own.caps h).1

/-- What a function that makes a slice of bytes leaves. -/
def MadeB (n : Nat) (l : List UInt8) (w : World) (e : Ending) (w' : World) : Prop :=
  ∃ A c, e = .returned (.slice A n c) ∧ OwnB w' w.heap.size w'.heap.size A n c l ∧ Below w.heap.size w w'

theorem len_of_rd {w : World} {B n : Nat} {A : Option Addr} {l : List UInt8} (h : Rd w B 1 A n (Lib.byteCells l)) : l.length = n := by have := h.1; simpa [Lib.byteCells] using this


theorem byteCells_one' (l : List UInt8) : ∀ v ∈ Lib.byteCells l, v.oneCell' = true := Lib.byteCells_one l


theorem below_dr {B : Nat} {a w : World} (h : Below B a w) (n : Nat) : Below B a (w.drewN n) := ⟨h.os, h.tape, h.output, h.size, h.block⟩
theorem take_eq_succ {l l' : List UInt8} {k : Nat} (h1 : k < l.length) (h2 : k < l'.length) (h : l.take k = l'.take k) (hk : l[k] = l'[k]) : l.take (k + 1) = l'.take (k + 1) := by
  rw [List.take_succ_eq_append_getElem h1, List.take_succ_eq_append_getElem h2, h, hk]

/-- Are two lists of bytes one? -/
def eqL (l l' : List UInt8) : Bool := decide (l = l')
theorem eqL_true {l l' : List UInt8} (h : l = l') : eqL l l' = true := by simp [eqL, h]
theorem eqL_false {l l' : List UInt8} (h : l ≠ l') : eqL l l' = false := by simp [eqL, h]
theorem eqL_self (l : List UInt8) : eqL l l = true := by simp [eqL]


/-- The marks from k on. -/
def marksB (k n : Nat) : List UInt8 := (List.range n).map fun i => UInt8.ofNat (k + i)
theorem marksB_len (k n : Nat) : (marksB k n).length = n := by simp [marksB]
theorem marksB_get (k n i : Nat) (h : i < n) : (Lib.byteCells (marksB k n))[i]? = some (.int .u8 (((k + i) % 256 : Nat) : Int)) := by
  simp [Lib.byteCells, marksB, h, UInt8.toNat_ofNat']
theorem u8wrap (k : Nat) : IntKind.u8.wrap (k : Int) = ((k % 256 : Nat) : Int) := by rw [IntKind.wrap_u8']; omega

/-- What markByteS leaves. -/
def MarkedB (A : Option Addr) (n c k lo hi : Nat) (w : World) (e : Ending) (w' : World) : Prop :=
  e = .returned (.int .i64 ((k + n : Nat) : Int)) ∧ OwnB w' lo hi A n c (marksB k n) ∧ Eff lo hi w w'


/-- What heldByteS gives. -/
def heldB (l : List UInt8) (k : Nat) : Int := if l = marksB k l.length then ((k + l.length : Nat) : Int) else -1
theorem heldB_marks (k n : Nat) : heldB (marksB k n) k = ((k + n : Nat) : Int) := by simp [heldB, marksB_len]

end Go.Proofs.Ytgjphejmppehjaa
