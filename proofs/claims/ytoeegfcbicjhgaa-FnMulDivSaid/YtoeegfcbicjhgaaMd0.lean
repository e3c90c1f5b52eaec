/- Plain arithmetic for MulDiv: no program in sight. -/
import Derived.Laws.BitsAllLaws
import Derived.Laws.BitsLemmas
namespace Go.Proofs.Ytoeegfcbicjhgaa

/-- The quotient and the rest of a product divided, where the quotient is an amount. -/
def mdR (a b c : Nat) : Nat × Nat × Bool := if a * b / c ≤ 1125899906842624 then (a * b / c, a * b % c, true) else (0, 0, false)

theorem ofInt_i64' (a : Nat) (ha : a < 9223372036854775808) : (BitVec.ofInt 64 (a : Int)).toNat = a := by
  rw [BitVec.ofInt_natCast, BitVec.toNat_ofNat]; exact Nat.mod_eq_of_lt (by omega)
theorem i64_and_nat' (a b : Nat) (ha : a < 9223372036854775808) (hb : b < 9223372036854775808) : bits .and .i64 (a : Int) (b : Int) = ((a &&& b : Nat) : Int) := by
  have hx : a &&& b < 2 ^ 63 := Nat.and_lt_two_pow _ (by omega)
  show IntKind.i64.wrap ((BitVec.ofInt 64 (a : Int) &&& BitVec.ofInt 64 (b : Int)).toNat : Int) = _
  rw [BitVec.toNat_and, ofInt_i64' a ha, ofInt_i64' b hb, IntKind.wrap_i64]
  omega
theorem and1_i64 (a n : Nat) (ha : a ≤ 1125899906842624) : bits .and .i64 ((a : Int) / 2 ^ n) 1 = ((a / 2 ^ n % 2 : Nat) : Int) := by
  have h := i64_and_nat' (a / 2 ^ n) 1 (Nat.lt_of_le_of_lt (Nat.div_le_self _ _) (by omega)) (by omega)
  rw [nat_mask1] at h
  rw [← h]
  simp

theorem div_pow_succ (a j : Nat) (hj : 0 < j) : a / 2 ^ (j - 1) = 2 * (a / 2 ^ j) + a / 2 ^ (j - 1) % 2 := by
  obtain ⟨k, rfl⟩ : ∃ k, j = k + 1 := ⟨j - 1, by omega⟩
  have h : a / 2 ^ (k + 1) = a / 2 ^ k / 2 := by rw [Nat.pow_succ, Nat.div_div_eq_div_mul]
  simp only [Nat.add_sub_cancel]
  omega

theorem div_facts (b c : Nat) (hb : b ≤ 1125899906842624) (hc : 1 ≤ c) : 0 ≤ (b : Int) / (c : Int) ∧ (b : Int) / (c : Int) ≤ 1125899906842624 ∧ 0 ≤ (b : Int) % (c : Int) ∧ (b : Int) % (c : Int) < (c : Int) ∧ b / c ≤ 1125899906842624 ∧ b % c < c := by
  have h1 : b / c ≤ b := Nat.div_le_self b c
  have h2 : b % c < c := Nat.mod_lt b hc
  have e1 : (b : Int) / (c : Int) = ((b / c : Nat) : Int) := (Int.natCast_ediv b c).symm
  have e2 : (b : Int) % (c : Int) = ((b % c : Nat) : Int) := (Int.natCast_emod b c).symm
  rw [e1, e2]
  generalize b / c = x at *
  generalize b % c = y at *
  omega
theorem div_cast (b c : Nat) : ((b / c : Nat) : Int) = (b : Int) / (c : Int) := Int.natCast_ediv b c
theorem modc_nat (b c : Nat) : ((b % c : Nat) : Int) = (b : Int) % (c : Int) := Int.natCast_emod b c

theorem md_start (a b : Nat) (c : Nat) (ha : a ≤ 1125899906842624) : 0 * c + 0 = a / 2 ^ 51 * b := by
  have : a / 2 ^ 51 = 0 := Nat.div_eq_of_lt (by omega)
  rw [this]; omega

theorem md_step0 {a b c q r j : Nat} (hj : 0 < j) (h : q * c + r = a / 2 ^ j * b) (hb : a / 2 ^ (j - 1) % 2 = 0) : 2 * q * c + 2 * r = a / 2 ^ (j - 1) * b := by
  have e : a / 2 ^ (j - 1) = 2 * (a / 2 ^ j) := by have := div_pow_succ a j hj; omega
  rw [e, Nat.mul_assoc 2 q c, Nat.mul_assoc 2 _ b, ← h]; omega

theorem md_step1 {a b c q r j : Nat} (hj : 0 < j) (h : q * c + r = a / 2 ^ j * b) (hb : a / 2 ^ (j - 1) % 2 = 1) : (2 * q + b / c) * c + (2 * r + b % c) = a / 2 ^ (j - 1) * b := by
  have e : a / 2 ^ (j - 1) = 2 * (a / 2 ^ j) + 1 := by have := div_pow_succ a j hj; omega
  have hd := Nat.div_add_mod b c
  have hm : c * (b / c) = b / c * c := Nat.mul_comm _ _
  rw [e, Nat.add_mul, Nat.mul_assoc 2 q c, Nat.add_mul, Nat.mul_assoc 2 _ b, ← h, Nat.one_mul]; omega

theorem md_sub {c q r X : Nat} (h : q * c + r = X) (hr : c ≤ r) : (q + 1) * c + (r - c) = X := by
  rw [Nat.add_mul, Nat.one_mul, ← h]; omega

theorem md_end {a b c q r : Nat} (h : q * c + r = a / 2 ^ 0 * b) (hr : r < c) : a * b / c = q ∧ a * b % c = r := by
  simp only [Nat.pow_zero, Nat.div_one] at h
  have h' : a * b = c * q + r := by rw [← h, Nat.mul_comm]
  constructor
  · rw [h', Nat.mul_add_div (by omega), Nat.div_eq_of_lt hr]; omega
  · rw [h', Nat.mul_add_mod, Nat.mod_eq_of_lt hr]

theorem md_big {a b c q r j : Nat} (h : q * c + r = a / 2 ^ j * b) (hc : 0 < c) (hq : 1125899906842624 < q) : 1125899906842624 < a * b / c := by
  have h1 : a / 2 ^ j ≤ a := Nat.div_le_self _ _
  have h2 : q * c ≤ a * b := by
    have := Nat.mul_le_mul_right b h1
    omega
  have : q ≤ a * b / c := (Nat.le_div_iff_mul_le hc).2 h2
  omega
end Go.Proofs.Ytoeegfcbicjhgaa
