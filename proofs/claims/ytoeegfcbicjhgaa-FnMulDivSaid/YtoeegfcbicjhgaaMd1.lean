/- l01Div of the reference: the quotient and the rest, bit by bit. -/
import Derived.Test.YtoeegfcbicjhgaaAmt2
import Derived.Test.YtoeegfcbicjhgaaMd0
namespace Go.Proofs.Ytoeegfcbicjhgaa
open Go.RowKit

theorem ret_iib {a a' b b' : Int} {x y : Bool} (h1 : a = a') (h2 : b = b') (h3 : x = y) : Ending.returned (.tuple #[.int .i64 a, .int .i64 b, .bool x]) = .returned (.tuple #[.int .i64 a', .int .i64 b', .bool y]) := by rw [h1, h2, h3]
theorem val_i {a b : Int} (h : a = b) : Value.int .i64 a = .int .i64 b := by rw [h]

theorem spec_l01Div (a b c : Nat) (ha : a ≤ 1125899906842624) (hb : b ≤ 1125899906842624) (hc : 1 ≤ c) (hc' : c ≤ 1125899906842624) (w : World) :
    Calls Try.prog 38 #[.int .i64 (a : Int), .int .i64 (b : Int), .int .i64 (c : Int)] w fun e w' => e = .returned (.tuple #[.int .i64 ((mdR a b c).1 : Int), .int .i64 ((mdR a b c).2.1 : Int), .bool (mdR a b c).2.2]) ∧ w = w' := by
  obtain ⟨R, hR⟩ : ∃ R, mdR a b c = R := ⟨_, rfl⟩
  rw [hR]
  have HR := Lib.hid hR
  clear hR
  obtain ⟨hd1, hd2, hm1, hm2, hd2n, hm2n⟩ := div_facts b c hb hc
  go_enter Try.func38, Try.ntmps38
  go_wp2
  go_loop [9, 10, 11] (fun vq vr vi => ∃ q r j : Nat, j ≤ 51 ∧ q ≤ 1125899906842624 ∧ r < c ∧ vq = .int .i64 (q : Int) ∧ vr = .int .i64 (r : Int) ∧ vi = .int .i64 ((j : Int) - 1) ∧ q * c + r = (a / 2 ^ j) * b) (fun _ _ vi => (intOf vi + 1).toNat)
  case atStart => exact ⟨0, 0, 51, by omega, by omega, by omega, rfl, rfl, rfl, md_start a b c ha⟩
  case round =>
    obtain ⟨q, r, j, hj, hq, hr, rfl, rfl, rfl, hinv⟩ := hrel
    have HI := Lib.hid hinv
    clear hinv
    by_cases hj0 : j = 0
    · subst hj0
      obtain ⟨h1, h2⟩ := md_end HI.out hr
      have hfin : R = (q, r, true) := by rw [← HR.out]; simp [mdR, h1, h2, hq]
      have HF := Lib.hid hfin
      clear hfin h1 h2
      go_wp2
      go_ret3
      exact ⟨ret_iib (by rw [HF.out]) (by rw [HF.out]) (by rw [HF.out]), rfl⟩
    · have hj1 : 0 < j := by omega
      clear hj0
      have hbit := and1_i64 a (j - 1) ha
      rcases (show a / 2 ^ (j - 1) % 2 = 0 ∨ a / 2 ^ (j - 1) % 2 = 1 by omega) with h0 | h0
      all_goals
        rw [h0] at hbit
        have H0 := Lib.hid h0
        clear h0
        go_wp2
        go_loop [9, 10] (fun vq vr => ∃ q' r' : Nat, q' ≤ 4503599627370496 ∧ r' < 3 * c ∧ vq = .int .i64 (q' : Int) ∧ vr = .int .i64 (r' : Int) ∧ q' * c + r' = (a / 2 ^ (j - 1)) * b ∧ (2 * c ≤ r' → q' ≤ 4503599627370494) ∧ (c ≤ r' → q' ≤ 4503599627370495)) (fun _ vr => (intOf vr).toNat)
        case atStart =>
          first
          | exact ⟨2 * q, 2 * r, by omega, by omega, val_i (by omega), val_i (by omega), md_step0 hj1 HI.out H0.out, by omega, by omega⟩
          | exact ⟨2 * q + b / c, 2 * r + b % c, by omega, by omega, val_i (by rw [Int.natCast_add, div_cast]; omega), val_i (by rw [Int.natCast_add, modc_nat]; omega), md_step1 hj1 HI.out H0.out, by omega, by omega⟩
        case round =>
          obtain ⟨q', r', hq', hr', rfl, rfl, hinv', hg1, hg2⟩ := hrel
          have HI' := Lib.hid hinv'
          have HG1 := Lib.hid hg1
          have HG2 := Lib.hid hg2
          clear hinv' hg1 hg2
          by_cases hcr : c ≤ r'
          · have hq2 := HG2.out hcr
            have hcr' : (c : Int) ≤ (r' : Int) := by omega
            go_wp2
            go_round
            case rel => exact ⟨q' + 1, r' - c, by omega, by omega, by go_num, val_i (by omega), md_sub HI'.out hcr, by have := HG1.out; omega, by have := HG1.out; omega⟩
            case measure => simp [intOf]; omega
          · have hcr' : (r' : Int) < (c : Int) := by omega
            by_cases hbig : q' ≤ 1125899906842624
            · go_wp2
              go_round
              case rel => exact ⟨q', r', j - 1, by omega, hbig, by omega, rfl, rfl, val_i (by omega), HI'.out⟩
              case measure => simp [intOf]; omega
            · have hbig' : 1125899906842624 < q' := by omega
              have hfin : R = (0, 0, false) := by
                have := md_big HI'.out hc hbig'
                rw [← HR.out, mdR, if_neg (by omega)]
              have HF := Lib.hid hfin
              clear hfin hbig
              go_wp2
              go_ret3
              exact ⟨ret_iib (by rw [HF.out]; rfl) (by rw [HF.out]; rfl) (by rw [HF.out]), rfl⟩
end Go.Proofs.Ytoeegfcbicjhgaa
