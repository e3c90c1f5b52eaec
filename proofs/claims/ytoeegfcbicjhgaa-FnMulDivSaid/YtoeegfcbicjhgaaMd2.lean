/- MulDiv, Fee, FeeUp: program and reference are one Lean function. -/
import Derived.Test.YtoeegfcbicjhgaaMd1
import Derived.Test.YtoeegfcbicjhgaaDv1
namespace Go.Proofs.Ytoeegfcbicjhgaa
open Go.RowKit

/-- What MulDiv gives. -/
def mulDiv (a b c : Int) : Int × Bool :=
  if inB a 0 1125899906842624 && inB b 0 1125899906842624 && inB c 1 1125899906842624 then (((mdR a.toNat b.toNat c.toNat).1 : Int), (mdR a.toNat b.toNat c.toNat).2.2) else (0, false)

theorem divided_no (a b c : Int) (w : World) (h : (inB a 0 1125899906842624 && inB b 0 1125899906842624 && inB c 1 1125899906842624) = false) :
    Calls Try.prog 39 #[.int .i64 a, .int .i64 b, .int .i64 c] w fun e w' => e = .returned (.tuple #[.int .i64 0, .int .i64 0, .bool false]) ∧ Below w.heap.size w w' := by
  rcases ha : inB a 0 1125899906842624 with _ | _
  · clear h
    go_enter Try.func39, Try.ntmps39
    go_wp2_with (go_at_call 16; refine (impl_AmtOk _ _).mono ?_; rintro e w1 ⟨rfl, rfl⟩)
    go_ret3
    exact ⟨rfl, Below.refl _ _⟩
  · rcases hb : inB b 0 1125899906842624 with _ | _
    · clear h
      go_enter Try.func39, Try.ntmps39
      go_wp2_with (go_at_call 16; refine (impl_AmtOk _ _).mono ?_; rintro e w1 ⟨rfl, rfl⟩)
      go_ret3
      exact ⟨rfl, Below.refl _ _⟩
    · have hc : inB c 1 1125899906842624 = false := by simpa [ha, hb] using h
      clear h
      go_enter Try.func39, Try.ntmps39
      go_wp2_with (first | (go_at_call 16; refine (impl_AmtOk _ _).mono ?_; rintro e w1 ⟨rfl, rfl⟩) | (go_at_call 36; refine (in_any _ _ _ _).mono ?_; rintro e w1 ⟨rfl, rfl⟩))
      go_ret3
      exact ⟨rfl, Below.refl _ _⟩

theorem prod_bound (a b : Nat) (ha : a ≤ 1125899906842624) (hb : b ≤ 1125899906842624) : a * b < 1267650600228229401496703205377 := by
  have := Nat.mul_le_mul ha hb
  omega

theorem divided_yes (a b c : Nat) (ha : a ≤ 1125899906842624) (hb : b ≤ 1125899906842624) (hc : 1 ≤ c) (hc' : c ≤ 1125899906842624) (w : World) :
    Calls Try.prog 39 #[.int .i64 (a : Int), .int .i64 (b : Int), .int .i64 (c : Int)] w fun e w' =>
      e = .returned (.tuple #[.int .i64 ((mdR a b c).1 : Int), .int .i64 ((mdR a b c).2.1 : Int), .bool (mdR a b c).2.2]) ∧ Below w.heap.size w w' := by
  have ia : inB a 0 1125899906842624 = true := inB_true (by omega) (by omega)
  have ib : inB b 0 1125899906842624 = true := inB_true (by omega) (by omega)
  have ic : inB c 1 1125899906842624 = true := inB_true (by omega) (by omega)
  have hp := prod_bound a b ha hb
  obtain ⟨R, hR⟩ : ∃ R, mdR a b c = R := ⟨_, rfl⟩
  rw [hR]
  have HR := Lib.hid hR
  clear hR
  obtain ⟨H, hH⟩ : ∃ H, a * b / 18446744073709551616 = H := ⟨_, rfl⟩
  obtain ⟨L, hL⟩ : ∃ L, a * b % 18446744073709551616 = L := ⟨_, rfl⟩
  have hHL : H * 18446744073709551616 + L = a * b := by omega
  have hLb : L < 18446744073709551616 := by omega
  have hHb : H ≤ 68719476736 := by omega
  have HH := Lib.hid hH
  have HL := Lib.hid hL
  have HHL := Lib.hid hHL
  have HP := Lib.hid hp
  clear hH hL hHL hp
  by_cases hbig : c ≤ H
  · have hfin : R = (0, 0, false) := by
      rw [← HR.out, mdR, if_neg]
      intro hle
      have h1 : c * 18446744073709551616 ≤ a * b := by have := HHL.out; omega
      have h2 : 18446744073709551616 ≤ a * b / c := (Nat.le_div_iff_mul_le (by omega)).2 (by rw [Nat.mul_comm]; exact h1)
      omega
    have HF := Lib.hid hfin
    clear hfin
    go_enter Try.func39, Try.ntmps39
    go_wp2_with (first | (go_at_call 16; refine (impl_AmtOk _ _).mono ?_; rintro e w1 ⟨rfl, rfl⟩) | (go_at_call 36; refine (in_any _ _ _ _).mono ?_; rintro e w1 ⟨rfl, rfl⟩) | (go_at_call 47; refine (bits_Mul64 _ _ (by omega) (by omega) _).mono ?_; rintro e w1 ⟨rfl, rfl⟩; rw [HH.out, HL.out]))
    go_ret3
    exact ⟨by rw [HF.out]; rfl, Below.refl _ _⟩
  · have hlt : H < c := by omega
    obtain ⟨Q, hQ⟩ : ∃ Q, (H * 18446744073709551616 + L) / c = Q := ⟨_, rfl⟩
    obtain ⟨r, hr⟩ : ∃ r, (H * 18446744073709551616 + L) % c = r := ⟨_, rfl⟩
    have HQ := Lib.hid hQ
    have Hr := Lib.hid hr
    have hrc : r < c := by rw [← hr]; exact Nat.mod_lt _ hc
    have hQb : Q < 18446744073709551616 := by
      rw [← hQ, Nat.div_lt_iff_lt_mul (by omega)]
      have := Nat.mul_le_mul_right 18446744073709551616 (show H + 1 ≤ c by omega)
      rw [Nat.mul_comm 18446744073709551616 c]
      omega
    clear hQ hr hbig
    by_cases hqm : Q ≤ 1125899906842624
    · have hfin : R = (Q, r, true) := by
        rw [← HR.out, mdR, ← HHL.out, HQ.out, Hr.out, if_pos hqm]
      have HF := Lib.hid hfin
      clear hfin
      go_enter Try.func39, Try.ntmps39
      go_wp2_with (first | (go_at_call 16; refine (impl_AmtOk _ _).mono ?_; rintro e w1 ⟨rfl, rfl⟩) | (go_at_call 36; refine (in_any _ _ _ _).mono ?_; rintro e w1 ⟨rfl, rfl⟩) | (go_at_call 47; refine (bits_Mul64 _ _ (by omega) (by omega) _).mono ?_; rintro e w1 ⟨rfl, rfl⟩; rw [HH.out, HL.out]) | (go_at_call 48; refine (bits_Div64 _ _ _ (by omega) (by omega) hlt hLb _).mono ?_; rintro e w1 ⟨rfl, hb1⟩; rw [HQ.out, Hr.out]))
      go_ret3
      exact ⟨ret_iib (by rw [HF.out]) (by rw [HF.out]) (by rw [HF.out]), by assumption⟩
    · have hqm' : 1125899906842624 < Q := by omega
      clear hqm
      have hfin : R = (0, 0, false) := by
        rw [← HR.out, mdR, ← HHL.out, HQ.out, if_neg (by omega)]
      have HF := Lib.hid hfin
      clear hfin
      go_enter Try.func39, Try.ntmps39
      go_wp2_with (first | (go_at_call 16; refine (impl_AmtOk _ _).mono ?_; rintro e w1 ⟨rfl, rfl⟩) | (go_at_call 36; refine (in_any _ _ _ _).mono ?_; rintro e w1 ⟨rfl, rfl⟩) | (go_at_call 47; refine (bits_Mul64 _ _ (by omega) (by omega) _).mono ?_; rintro e w1 ⟨rfl, rfl⟩; rw [HH.out, HL.out]) | (go_at_call 48; refine (bits_Div64 _ _ _ (by omega) (by omega) hlt hLb _).mono ?_; rintro e w1 ⟨rfl, hb1⟩; rw [HQ.out, Hr.out]))
      go_ret3
      exact ⟨by rw [HF.out]; rfl, by assumption⟩
end Go.Proofs.Ytoeegfcbicjhgaa
