/- GetNum and PutNum: program and reference; numbers as bytes, big end first. -/
import Derived.Test.YtgjphejmppehjaaBy
import Derived.Laws.BitsAllLaws
import Derived.Laws.BitsLemmas
namespace Go.Proofs.Ytgjphejmppehjaa
open Go.RowKit

/-- The number that bytes make, the greatest first. -/
def beNat (l : List UInt8) : Nat := l.foldl (fun a c => a * 256 + c.toNat) 0
theorem beNat_snoc (l : List UInt8) (c : UInt8) : beNat (l ++ [c]) = beNat l * 256 + c.toNat := by simp [beNat]
theorem beNat_lt (l : List UInt8) : beNat l < 256 ^ l.length := by
  suffices h : ∀ (l : List UInt8) (a k : Nat), a < 256 ^ k → l.foldl (fun a c => a * 256 + c.toNat) a < 256 ^ (k + l.length) by
    have := h l 0 0 (by omega)
    rw [Nat.zero_add] at this
    exact this
  intro l
  induction l with
  | nil => intro a k h; simpa using h
  | cons c l ih =>
    intro a k h
    have hc := c.toNat_lt
    have := ih (a * 256 + c.toNat) (k + 1) (by rw [Nat.pow_succ]; omega)
    simpa [Nat.add_assoc, Nat.add_comm 1] using this

def getNum (l : List UInt8) (p s : Int) : Int × Bool :=
  if inB s 1 7 && decide (0 ≤ p) && decide (p + s ≤ l.length) then ((beNat ((l.drop p.toNat).take s.toNat) : Int), true) else (0, false)
theorem getNum_s {l : List UInt8} {p s : Int} (h : inB s 1 7 = false) : getNum l p s = (0, false) := by simp [getNum, h]
theorem getNum_p {l : List UInt8} {p s : Int} (h : p < 0) : getNum l p s = (0, false) := by
  have : ¬ 0 ≤ p := by omega
  simp [getNum, this]
theorem getNum_e {l : List UInt8} {p s : Int} (h : (l.length : Int) < p + s) : getNum l p s = (0, false) := by
  have : ¬ p + s ≤ (l.length : Int) := by omega
  simp [getNum, this]
theorem getNum_ok {l : List UInt8} {p s : Nat} (h1 : 1 ≤ s) (h2 : s ≤ 7) (h : p + s ≤ l.length) : getNum l p s = ((beNat ((l.drop p).take s) : Int), true) := by
  have e : (p : Int) + (s : Int) ≤ (l.length : Int) := by omega
  simp [getNum, inB_true (n := (s : Int)) (lo := 1) (hi := 7) (by omega) (by omega), e]

theorem drop_take_snoc (l : List UInt8) (p k : Nat) (h : p + k < l.length) : (l.drop p).take (k + 1) = (l.drop p).take k ++ [l[p + k]] := by
  rw [List.take_succ_eq_append_getElem (by simp; omega)]; simp

theorem i64_or_nat'' (a b : Nat) (ha : a < 9223372036854775808) (hb : b < 9223372036854775808) : bits .or .i64 (a : Int) (b : Int) = ((a ||| b : Nat) : Int) := by
  have h1 : (BitVec.ofInt 64 (a : Int)).toNat = a := by rw [BitVec.ofInt_natCast, BitVec.toNat_ofNat]; exact Nat.mod_eq_of_lt (by omega)
  have h2 : (BitVec.ofInt 64 (b : Int)).toNat = b := by rw [BitVec.ofInt_natCast, BitVec.toNat_ofNat]; exact Nat.mod_eq_of_lt (by omega)
  have hx : a ||| b < 2 ^ 63 := Nat.or_lt_two_pow (by omega) (by omega)
  show IntKind.i64.wrap ((BitVec.ofInt 64 (a : Int) ||| BitVec.ofInt 64 (b : Int)).toNat : Int) = _
  rw [BitVec.toNat_or, h1, h2, IntKind.wrap_i64]
  omega
theorem or_byte (a b : Nat) (ha : a < 281474976710656) (hb : b < 256) : bits .or .i64 ((a : Int) * 256) (b : Int) = ((a * 256 + b : Nat) : Int) := by
  have h := i64_or_nat'' (a * 256) b (by omega) (by omega)
  rw [nat_join 8 (a * 256) b (by omega) (by omega)] at h
  rw [← h]; simp

theorem pow_le7 {k : Nat} (h : k ≤ 7) : 256 ^ k ≤ 72057594037927936 := Nat.pow_le_pow_right (by omega) h
theorem pow_lt7 {k : Nat} (h : k < 7) : 256 ^ k ≤ 281474976710656 := Nat.pow_le_pow_right (n := 256) (by omega) (show k ≤ 6 by omega)

end Go.Proofs.Ytgjphejmppehjaa
