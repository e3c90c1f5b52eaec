/- Plain arithmetic under math/bits.Div64 (division of two words by one, digit by digit of 32 bits): no program in sight. K is 2^32. -/
import Derived.Laws.BitsAllLaws
import Derived.Lib.ItoaNum
namespace Go.Proofs.Ytoeegfcbicjhgaa

theorem bitLen_facts (y : Nat) (h0 : 0 < y) (h : y < 18446744073709551616) : ∃ s : Nat, s ≤ 63 ∧ Lib.bitLen y + s = 64 ∧ 9223372036854775808 ≤ y * 2 ^ s ∧ y * 2 ^ s < 18446744073709551616 := by
  obtain ⟨h1, h2, h3⟩ := Lib.bitLenAux_bounds 64 y h (by omega)
  have h4 : Lib.bitLen y ≤ 64 := Lib.bitLen_le y 64 (by omega) h
  have e : Lib.bitLenAux 64 y = Lib.bitLen y := rfl
  rw [e] at h1 h2 h3
  refine ⟨64 - Lib.bitLen y, by omega, by omega, ?_, ?_⟩
  · have := Nat.mul_le_mul_right (2 ^ (64 - Lib.bitLen y)) h2
    rw [← Nat.pow_add, show Lib.bitLen y - 1 + (64 - Lib.bitLen y) = 63 by omega] at this
    exact this
  · have hp : 0 < 2 ^ (64 - Lib.bitLen y) := Nat.pow_pos (by omega)
    have := Nat.mul_lt_mul_of_pos_right h3 hp
    rw [← Nat.pow_add, show Lib.bitLen y + (64 - Lib.bitLen y) = 64 by omega] at this
    exact this

section
variable {y1 y0 Y U u1 q r Q K : Nat}

/-- One digit: what holds of the guess q and its rest r at the head of a round. -/
structure DigInv (y1 U Q K q r : Nat) : Prop where
  sum : q * y1 + r = U
  ge : Q ≤ q
  le : q ≤ K + 1

theorem mul_split (hY : Y = y1 * K + y0) (h : q * y1 + r = U) : q * Y + r * K = U * K + q * y0 := by
  rw [hY, ← h, Nat.mul_add, Nat.add_mul, Nat.mul_assoc]; omega

theorem dig_start (hY : Y = y1 * K + y0) (h1 : 0 < y1) (hK : K ≤ 2 * y1) (h0 : y0 < K) (hU : U < Y) (hu : u1 < K) (hQ : Q = (U * K + u1) / Y) : DigInv y1 U Q K (U / y1) (U % y1) := by
  have hs : U / y1 * y1 + U % y1 = U := by rw [Nat.mul_comm]; exact Nat.div_add_mod U y1
  have hm : U % y1 < y1 := Nat.mod_lt _ h1
  generalize U / y1 = a at *
  generalize U % y1 = b at *
  refine ⟨hs, ?_, ?_⟩
  · rw [hQ]
    apply Nat.le_of_lt_succ
    rw [Nat.div_lt_iff_lt_mul (by omega)]
    have e1 : (a + 1) * Y = (a + 1) * y1 * K + (a + 1) * y0 := by rw [hY, Nat.mul_add, Nat.mul_assoc]
    have e2 : U + 1 ≤ (a + 1) * y1 := by rw [Nat.add_mul, Nat.one_mul]; omega
    have e3 : (U + 1) * K ≤ (a + 1) * y1 * K := Nat.mul_le_mul_right K e2
    rw [Nat.add_mul, Nat.one_mul] at e3
    show U * K + u1 < (a + 1) * Y
    omega
  · apply Nat.le_of_lt_succ
    apply Nat.lt_of_mul_lt_mul_right (a := y1)
    have e : (K + 1).succ * y1 = y1 * K + 2 * y1 := by
      rw [show (K + 1).succ = K + 2 from rfl, Nat.add_mul, Nat.mul_comm K y1]
    rw [e]
    omega

theorem Q_lt (hU : U < Y) (hu : u1 < K) (hQ : Q = (U * K + u1) / Y) : Q < K := by
  rw [hQ, Nat.div_lt_iff_lt_mul (by omega)]
  have : (U + 1) * K ≤ Y * K := Nat.mul_le_mul_right K hU
  rw [Nat.add_mul, Nat.one_mul] at this
  rw [Nat.mul_comm K Y]
  omega

theorem dig_dec (hY : Y = y1 * K + y0) (hpos : 0 < Y) (hQK : Q < K) (hQ : Q = (U * K + u1) / Y) (h : DigInv y1 U Q K q r) (hc : K ≤ q ∨ K * r + u1 < q * y0) : DigInv y1 U Q K (q - 1) (r + y1) ∧ 1 ≤ q ∧ q - 1 ≤ K := by
  have hlt : Q < q := by
    rcases hc with hc | hc
    · omega
    · rw [hQ, Nat.div_lt_iff_lt_mul hpos]
      have := mul_split hY h.sum
      rw [Nat.mul_comm r K] at this
      omega
  refine ⟨⟨?_, by omega, by have := h.le; omega⟩, by omega, by have := h.le; omega⟩
  obtain ⟨p, rfl⟩ : ∃ p, q = p + 1 := ⟨q - 1, by omega⟩
  have := h.sum
  rw [Nat.add_mul, Nat.one_mul] at this
  simp only [Nat.add_sub_cancel]
  omega

theorem dig_exit (hY : Y = y1 * K + y0) (hpos : 0 < Y) (hQ : Q = (U * K + u1) / Y) (h : DigInv y1 U Q K q r) (hc : q * y0 ≤ K * r + u1) : q = Q := by
  apply Nat.le_antisymm _ h.ge
  rw [hQ, Nat.le_div_iff_mul_le hpos]
  have := mul_split hY h.sum
  rw [Nat.mul_comm r K] at this
  omega

theorem dig_break (hY : Y = y1 * K + y0) (hpos : 0 < Y) (h0 : y0 < K) (hQ : Q = (U * K + u1) / Y) (h : DigInv y1 U Q K q r) (hq : q ≤ K) (hr : K ≤ r) : q = Q := by
  refine dig_exit hY hpos hQ h ?_
  have a : q * y0 ≤ K * y0 := Nat.mul_le_mul_right _ hq
  have b : K * y0 ≤ K * r := Nat.mul_le_mul_left _ (by omega)
  omega

/-- What is left behind a digit. -/
theorem dig_rest (hpos : 0 < Y) (hQ : Q = (U * K + u1) / Y) : Q * Y + (U * K + u1) % Y = U * K + u1 ∧ (U * K + u1) % Y < Y := by
  rw [hQ, Nat.mul_comm]; exact ⟨Nat.div_add_mod _ _, Nat.mod_lt _ hpos⟩
end

theorem div_final {T y s Y Q1 Q0 X R U u1 u0 K : Nat} (hY : Y = y * 2 ^ s) (hy : 0 < y) (hT : T * 2 ^ s = U * (K * K) + (u1 * K + u0)) (h1 : Q1 * Y + X = U * K + u1) (h2 : Q0 * Y + R = X * K + u0) (hR : R < Y) :
    T / y = Q1 * K + Q0 ∧ T % y = R / 2 ^ s := by
  have hp : 0 < 2 ^ s := Nat.pow_pos (by omega)
  have e : T * 2 ^ s = (Q1 * K + Q0) * Y + R := by
    have h3 : (Q1 * Y + X) * K = (U * K + u1) * K := by rw [h1]
    rw [Nat.add_mul, Nat.add_mul] at h3
    rw [hT, Nat.add_mul (Q1 * K) Q0 Y, Nat.mul_right_comm Q1 K Y, ← Nat.mul_assoc U K K]
    omega
  have e2 : T * 2 ^ s = (Q1 * K + Q0) * y * 2 ^ s + R := by rw [e, hY, Nat.mul_assoc]
  have hle : (Q1 * K + Q0) * y ≤ T := by
    apply Nat.le_of_mul_le_mul_right (c := 2 ^ s) _ hp
    omega
  obtain ⟨d, hd⟩ : ∃ d, T = (Q1 * K + Q0) * y + d := ⟨T - (Q1 * K + Q0) * y, by omega⟩
  have hR' : R = d * 2 ^ s := by
    rw [hd, Nat.add_mul] at e2
    omega
  have hdy : d < y := by
    apply Nat.lt_of_mul_lt_mul_right (a := 2 ^ s)
    rw [← hR', ← hY]; exact hR
  have hT' : T = y * (Q1 * K + Q0) + d := by rw [hd, Nat.mul_comm]
  constructor
  · rw [hT', Nat.mul_add_div hy, Nat.div_eq_of_lt hdy]; omega
  · rw [hR', Nat.mul_div_cancel _ hp, hT', Nat.mul_add_mod, Nat.mod_eq_of_lt hdy]

/-- The shift of two words. -/
theorem shift_two {hi lo y s : Nat} (hs : s ≤ 63) (hlt : hi < y) (hlo : lo < 18446744073709551616) (hY : y * 2 ^ s < 18446744073709551616) :
    hi * 2 ^ s < 18446744073709551616 ∧ hi * 2 ^ s + lo / 2 ^ (64 - s) < y * 2 ^ s ∧ (hi * 2 ^ s ||| lo / 2 ^ (64 - s)) = hi * 2 ^ s + lo / 2 ^ (64 - s) ∧
    (hi * 18446744073709551616 + lo) * 2 ^ s = (hi * 2 ^ s + lo / 2 ^ (64 - s)) * 18446744073709551616 + lo * 2 ^ s % 18446744073709551616 := by
  have hp : 0 < 2 ^ s := Nat.pow_pos (by omega)
  have hpp : 2 ^ (64 - s) * 2 ^ s = 18446744073709551616 := by rw [← Nat.pow_add, show 64 - s + s = 64 by omega]
  have h1 : (hi + 1) * 2 ^ s ≤ y * 2 ^ s := Nat.mul_le_mul_right _ hlt
  rw [Nat.add_mul, Nat.one_mul] at h1
  have h2 : lo / 2 ^ (64 - s) < 2 ^ s := by
    rw [Nat.div_lt_iff_lt_mul (Nat.pow_pos (by omega)), Nat.mul_comm, hpp]; exact hlo
  have h3 : lo * 2 ^ s = lo / 2 ^ (64 - s) * 18446744073709551616 + lo * 2 ^ s % 18446744073709551616 := by
    have e : lo * 2 ^ s / 18446744073709551616 = lo / 2 ^ (64 - s) := by
      rw [← hpp, Nat.mul_div_mul_right _ _ hp]
    have := Nat.div_add_mod (lo * 2 ^ s) 18446744073709551616
    rw [e] at this
    omega
  refine ⟨by omega, by omega, ?_, ?_⟩
  · exact nat_join s _ _ (Nat.mul_mod_left _ _) h2
  · rw [Nat.add_mul, Nat.add_mul, Nat.mul_right_comm]
    omega

/-- The wrapped difference is the rest. -/
theorem wrap_rest {U u1 Q Y X : Nat} (h : Q * Y + X = U * 4294967296 + u1) (hX : X < 18446744073709551616) :
    IntKind.u64.wrap (IntKind.u64.wrap (IntKind.u64.wrap ((U : Int) * 4294967296) + (u1 : Int)) - IntKind.u64.wrap ((Q : Int) * (Y : Int))) = (X : Int) := by
  rw [IntKind.wrap_u64, IntKind.wrap_u64, IntKind.wrap_u64, IntKind.wrap_u64, ← Int.natCast_mul]
  generalize Q * Y = z at *
  omega
end Go.Proofs.Ytoeegfcbicjhgaa
