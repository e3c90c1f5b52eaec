/- The walk of FnZero. -/
import Derived.Test.YtgjphejmppehjaaZwp
namespace Go.Proofs.Ytgjphejmppehjaa
open Go.RowKit
theorem sameLines_yes (A : Option Addr) (n c : Nat) (A' : Option Addr) (c' : Nat) (ls : List Ln) (W : World) (hr : Rd W W.heap.size 3 A n (lnCells ls)) (hr' : Rd W W.heap.size 3 A' n (lnCells ls)) (hn : n ≤ 1099511627776) :
    Calls Try.prog 38 #[.slice A n c, .slice A' n c'] W fun e w' => e = .returned (.bool true) ∧ Below W.heap.size W w' := by
  have hnn : ((n : Int) != (n : Int)) = false := by simp
  have hl := lnlen_of_rd hr
  have HL := Lib.hid hl
  clear hl
  go_enter Try.func38, Try.ntmps38
  go_wp2_with fail
  go_loopw [13] (fun vi wr => ∃ i : Nat, i ≤ n ∧ vi = .int .i64 (i : Int) ∧ Below W.heap.size W wr) (fun vi _ => n - (intOf vi).toNat)
  case atStart => exact ⟨0, Nat.zero_le _, rfl, Below.refl _ _⟩
  case round =>
    obtain ⟨i, hi, rfl, hb⟩ := hrel
    by_cases hlt : i < n
    · obtain ⟨x0, x1, x2, hx⟩ : ∃ x0 x1 x2, lnAt ls i = ⟨x0, x1, x2⟩ := ⟨_, _, _, rfl⟩
      obtain ⟨b, off, rfl, hbB, hcell⟩ := (hr.below hb (Nat.le_refl _)).form (by omega)
      obtain ⟨b', off', rfl, hbB', hcell'⟩ := (hr'.below hb (Nat.le_refl _)).form (by omega)
      obtain ⟨g0, g1, g2⟩ := lnCells_at (k := i) hx (by rw [HL.out]; exact hlt)
      have c0 := hcell _ _ g0
      have c1 := hcell _ _ g1
      have c2 := hcell _ _ g2
      have d0 := hcell' _ _ g0
      have d1 := hcell' _ _ g1
      have d2 := hcell' _ _ g2
      rw [← Nat.add_assoc] at c1 c2 d1 d2
      have i0 : (0 : Int) ≤ (i : Int) := by omega
      have i1 : (i : Int) < (n : Int) := by omega
      have e0 : (x0 != x0) = false := by simp
      have e1 : (x1 != x1) = false := by simp
      have e2 : (x2 != x2) = false := by simp
      clear hcell hcell' g0 g1 g2 hx
      go_wp2_with fail
      go_quiet (fail)
      go_wp2_with fail
      go_roundw
      case rel => exact ⟨i + 1, by omega, by go_num, hb.trans ((((Eff.refl 0 0 wr).drewN _).all).mono hb.size)⟩
      case measure => simp [intOf]; omega
    · obtain rfl : i = n := by omega
      have i1 : ¬ (i : Int) < (i : Int) := by omega
      go_wp2_with fail
      go_ret
      exact ⟨rfl, hb⟩
set_option maxHeartbeats 4000000 in
set_option maxRecDepth 100000 in
theorem walk_FnZero (A : Option Addr) (n c : Nat) (l : List UInt8) (W : World) (_hnc : n ≤ c) (_hm : c ≤ maxLen) (hr : Rd W W.heap.size 1 A n (Lib.byteCells l)) :
    Calls Try.prog 9 #[.slice A n c] W fun e w' => e = .returned (.bool true) ∧ Below W.heap.size W w' := by
  by_cases hn1 : 1048576 < n
  · unfold maxLen at _hm
    go_enter Try.func9, Try.ntmps9
    go_wp2
    go_ret
    exact ⟨rfl, Below.refl _ _⟩
  · have hn : n ≤ 1048576 := by omega
    clear hn1
    go_enter Try.func9, Try.ntmps9
    go_wp2_with fail
    refine (DrawPost_any W A n c l (hr.more (by omega)) hn).mono ?_
    rintro e w1 ⟨q, A1, m, c1, ls, p, A2, n2, c2, ps, rfl, hm, hn2, o, r, hb⟩
    have he1 : Eff 0 0 W w1 := Eff.of hb
    have hz1 : W.heap.size ≤ w1.heap.size := he1.size
    have b1 : Below W.heap.size W w1 := he1.below (Nat.le_refl _) (by omega)
    replace hr := (hr.below (he1.below (B := W.heap.size) (by omega) (by omega)) (Nat.le_refl _))
    clear hb
    clear hr
    obtain ⟨Q, hQ⟩ : ∃ x, (postR q ls p ps).1 = x := ⟨_, rfl⟩
    obtain ⟨R, hR⟩ : ∃ x, (postR q ls p ps).2.1 = x := ⟨_, rfl⟩
    obtain ⟨Cd, hC⟩ : ∃ x, (postR q ls p ps).2.2 = x := ⟨_, rfl⟩
    obtain ⟨N, hN⟩ : ∃ N, R.length = N := ⟨_, rfl⟩
    have hN2 : N ≤ 302 := by rw [← hN, ← hR]; exact postR_len q ls p ps
    have hml := lnlen_of_own o
    have hnl := lnlen_of_own r
    have HML := Lib.hid hml
    have HNL := Lib.hid hnl
    have HQ := Lib.hid hQ
    have HR := Lib.hid hR
    have HC := Lib.hid hC
    have HN := Lib.hid hN
    have hcc : (Cd != Cd) = false := by simp
    clear hQ hR hC hN hml hnl
    go_wp2_with fail
    have he2 : Eff 0 0 w1 (w1.alloc (.cells #[.int .i64 q, .slice A1 m c1] 34)) := Eff.alloc _ _
    have hs2 : (w1.alloc (.cells #[.int .i64 q, .slice A1 m c1] 34)).heap.size = w1.heap.size + 1 := (by simp)
    have l_0 : (w1.alloc (.cells #[.int .i64 q, .slice A1 m c1] 34)).cell? ⟨w1.heap.size, 0, none⟩ = some (.int .i64 q) := var_cell _ _ _ _ _ rfl
    have l_1 : (w1.alloc (.cells #[.int .i64 q, .slice A1 m c1] 34)).cell? ⟨w1.heap.size, 1, none⟩ = some (.slice A1 m c1) := var_cell _ _ _ _ _ rfl
    generalize (w1.alloc (.cells #[.int .i64 q, .slice A1 m c1] 34)) = w2 at *
    have hz2 : w1.heap.size ≤ w2.heap.size := he2.size
    have b2 : Below W.heap.size W w2 := b1.trans (he2.below b1.size (by omega))
    replace o := Own.keep o he2 (by omega)
    replace r := Own.keep r he2 (by omega)
    have l_l : w1.heap.size < w2.heap.size := (by omega)
    have he3 : Eff 0 0 w2 (w2.alloc (.cells #[.int .i64 p, .slice A2 n2 c2] 43)) := Eff.alloc _ _
    have hs3 : (w2.alloc (.cells #[.int .i64 p, .slice A2 n2 c2] 43)).heap.size = w2.heap.size + 1 := (by simp)
    have p_0 : (w2.alloc (.cells #[.int .i64 p, .slice A2 n2 c2] 43)).cell? ⟨w2.heap.size, 0, none⟩ = some (.int .i64 p) := var_cell _ _ _ _ _ rfl
    have p_1 : (w2.alloc (.cells #[.int .i64 p, .slice A2 n2 c2] 43)).cell? ⟨w2.heap.size, 1, none⟩ = some (.slice A2 n2 c2) := var_cell _ _ _ _ _ rfl
    generalize (w2.alloc (.cells #[.int .i64 p, .slice A2 n2 c2] 43)) = w3 at *
    have hz3 : w2.heap.size ≤ w3.heap.size := he3.size
    have b3 : Below W.heap.size W w3 := b2.trans (he3.below b2.size (by omega))
    replace o := Own.keep o he3 (by omega)
    replace r := Own.keep r he3 (by omega)
    replace l_0 := he3.cell l_0 (by simp only; omega)
    replace l_1 := he3.cell l_1 (by simp only; omega)
    replace l_l := Nat.lt_of_lt_of_le l_l hz3
    rw [hs2] at p_0
    rw [hs2] at p_1
    have p_l : w1.heap.size + 1 < w3.heap.size := (by omega)
    clear hs2 hs3
    refine (impl_PostR HQ.out HR.out HC.out _ m _ _ n2 _ w3 (Own.rd o (Own.le o)) (Own.rd r (Own.le r)) (by omega) (by omega) (Own.caps o) (Own.caps r)).mono ?_
    rintro e w4 hpost
    obtain ⟨At, nt, ct, hnt, rfl, t, hb⟩ := hpost
    rw [HN.out] at hnt
    obtain rfl : N = nt := hnt.symm
    clear hnt
    have he4 : Eff 0 0 w3 w4 := Eff.of hb
    have hz4 : w3.heap.size ≤ w4.heap.size := he4.size
    have b4 : Below W.heap.size W w4 := b3.trans (he4.below b3.size (by omega))
    replace o := Own.keep o he4 (by omega)
    replace r := Own.keep r he4 (by omega)
    replace l_0 := he4.cell l_0 (by simp only; omega)
    replace l_1 := he4.cell l_1 (by simp only; omega)
    replace p_0 := he4.cell p_0 (by simp only; omega)
    replace p_1 := he4.cell p_1 (by simp only; omega)
    replace l_l := Nat.lt_of_lt_of_le l_l hz4
    replace p_l := Nat.lt_of_lt_of_le p_l hz4
    clear hb
    have l_0P := (Eff.alloc w4 (.cells #[.int .i64 Q, .slice At N ct] 34)).cell l_0 (by simp only; omega)
    have l_1P := (Eff.alloc w4 (.cells #[.int .i64 Q, .slice At N ct] 34)).cell l_1 (by simp only; omega)
    have p_0P := (Eff.alloc w4 (.cells #[.int .i64 Q, .slice At N ct] 34)).cell p_0 (by simp only; omega)
    have p_1P := (Eff.alloc w4 (.cells #[.int .i64 Q, .slice At N ct] 34)).cell p_1 (by simp only; omega)
    go_wp2_with fail
    have he5 : Eff 0 0 w4 (w4.alloc (.cells #[.int .i64 Q, .slice At N ct] 34)) := Eff.alloc _ _
    have hs5 : (w4.alloc (.cells #[.int .i64 Q, .slice At N ct] 34)).heap.size = w4.heap.size + 1 := (by simp)
    have m_0 : (w4.alloc (.cells #[.int .i64 Q, .slice At N ct] 34)).cell? ⟨w4.heap.size, 0, none⟩ = some (.int .i64 Q) := var_cell _ _ _ _ _ rfl
    have m_1 : (w4.alloc (.cells #[.int .i64 Q, .slice At N ct] 34)).cell? ⟨w4.heap.size, 1, none⟩ = some (.slice At N ct) := var_cell _ _ _ _ _ rfl
    generalize (w4.alloc (.cells #[.int .i64 Q, .slice At N ct] 34)) = w5 at *
    have hz5 : w4.heap.size ≤ w5.heap.size := he5.size
    have b5 : Below W.heap.size W w5 := b4.trans (he5.below b4.size (by omega))
    replace o := Own.keep o he5 (by omega)
    replace r := Own.keep r he5 (by omega)
    replace t := Own.keep t he5 (by omega)
    replace l_0 := he5.cell l_0 (by simp only; omega)
    replace l_1 := he5.cell l_1 (by simp only; omega)
    replace p_0 := he5.cell p_0 (by simp only; omega)
    replace p_1 := he5.cell p_1 (by simp only; omega)
    replace l_l := Nat.lt_of_lt_of_le l_l hz5
    replace p_l := Nat.lt_of_lt_of_le p_l hz5
    have m_l : w4.heap.size < w5.heap.size := (by omega)
    clear l_0P l_1P p_0P p_1P
    clear hs5
    refine (spec_PostR HQ.out HR.out HC.out _ m _ _ n2 _ w5 (Own.rd o (Own.le o)) (Own.rd r (Own.le r)) (by omega) (by omega) (Own.caps o) (Own.caps r)).mono ?_
    rintro e w6 hpost
    obtain ⟨Au, nu, cu, hnu, rfl, u, hb⟩ := hpost
    rw [HN.out] at hnu
    obtain rfl : N = nu := hnu.symm
    clear hnu
    have he6 : Eff 0 0 w5 w6 := Eff.of hb
    have hz6 : w5.heap.size ≤ w6.heap.size := he6.size
    have b6 : Below W.heap.size W w6 := b5.trans (he6.below b5.size (by omega))
    replace o := Own.keep o he6 (by omega)
    replace r := Own.keep r he6 (by omega)
    replace t := Own.keep t he6 (by omega)
    replace l_0 := he6.cell l_0 (by simp only; omega)
    replace l_1 := he6.cell l_1 (by simp only; omega)
    replace p_0 := he6.cell p_0 (by simp only; omega)
    replace p_1 := he6.cell p_1 (by simp only; omega)
    replace m_0 := he6.cell m_0 (by simp only; omega)
    replace m_1 := he6.cell m_1 (by simp only; omega)
    replace l_l := Nat.lt_of_lt_of_le l_l hz6
    replace p_l := Nat.lt_of_lt_of_le p_l hz6
    replace m_l := Nat.lt_of_lt_of_le m_l hz6
    clear hb
    by_cases hcd : Cd = 0
    · skip
      subst hcd
      have hcz : ((0 : Int) != 0) = false := by decide
      have hag := post_again HC.out
      obtain ⟨h1, h2, h3, h4⟩ := postR_zero HC.out
      have hpk := pst_ok h2
      obtain rfl : Q = p := by rw [← HQ.out, h4]
      have hRm : mrgU ls ps = R := by rw [← HR.out, h4]
      rw [hRm] at hag h3
      have hrk := led_ok h3
      have HPK := Lib.hid hpk
      have HRK := Lib.hid hrk
      have HAG := Lib.hid hag
      have HLK := Lib.hid h3
      clear h1 h2 h3 h4 hpk hRm hrk hag
      have l_0P := (Eff.alloc w6 (.cells #[.int .i64 Q, .slice Au N cu] 34)).cell l_0 (by simp only; omega)
      have l_1P := (Eff.alloc w6 (.cells #[.int .i64 Q, .slice Au N cu] 34)).cell l_1 (by simp only; omega)
      have p_0P := (Eff.alloc w6 (.cells #[.int .i64 Q, .slice Au N cu] 34)).cell p_0 (by simp only; omega)
      have p_1P := (Eff.alloc w6 (.cells #[.int .i64 Q, .slice Au N cu] 34)).cell p_1 (by simp only; omega)
      have m_0P := (Eff.alloc w6 (.cells #[.int .i64 Q, .slice Au N cu] 34)).cell m_0 (by simp only; omega)
      have m_1P := (Eff.alloc w6 (.cells #[.int .i64 Q, .slice Au N cu] 34)).cell m_1 (by simp only; omega)
      go_wp2_with fail
      have he7 : Eff 0 0 w6 (w6.alloc (.cells #[.int .i64 Q, .slice Au N cu] 34)) := Eff.alloc _ _
      have hs7 : (w6.alloc (.cells #[.int .i64 Q, .slice Au N cu] 34)).heap.size = w6.heap.size + 1 := (by simp)
      have ws_0 : (w6.alloc (.cells #[.int .i64 Q, .slice Au N cu] 34)).cell? ⟨w6.heap.size, 0, none⟩ = some (.int .i64 Q) := var_cell _ _ _ _ _ rfl
      have ws_1 : (w6.alloc (.cells #[.int .i64 Q, .slice Au N cu] 34)).cell? ⟨w6.heap.size, 1, none⟩ = some (.slice Au N cu) := var_cell _ _ _ _ _ rfl
      generalize (w6.alloc (.cells #[.int .i64 Q, .slice Au N cu] 34)) = w7 at *
      have hz7 : w6.heap.size ≤ w7.heap.size := he7.size
      have b7 : Below W.heap.size W w7 := b6.trans (he7.below b6.size (by omega))
      replace o := Own.keep o he7 (by omega)
      replace r := Own.keep r he7 (by omega)
      replace t := Own.keep t he7 (by omega)
      replace u := Own.keep u he7 (by omega)
      replace l_0 := he7.cell l_0 (by simp only; omega)
      replace l_1 := he7.cell l_1 (by simp only; omega)
      replace p_0 := he7.cell p_0 (by simp only; omega)
      replace p_1 := he7.cell p_1 (by simp only; omega)
      replace m_0 := he7.cell m_0 (by simp only; omega)
      replace m_1 := he7.cell m_1 (by simp only; omega)
      replace l_l := Nat.lt_of_lt_of_le l_l hz7
      replace p_l := Nat.lt_of_lt_of_le p_l hz7
      replace m_l := Nat.lt_of_lt_of_le m_l hz7
      have ws_l : w6.heap.size < w7.heap.size := (by omega)
      clear l_0P l_1P p_0P p_1P m_0P m_1P
      clear hs7
      have hle := Own.le t
      have hql : Q + 1 ≤ 1125899906842625 := by have := HPK.out.2.2.2.1; omega
      have hqg : 1 ≤ Q := HPK.out.2.2.1
      go_loopw [9, 49] (fun vs vi wr => ∃ (i : Nat) (s : Int), i ≤ N ∧ vi = .int .i64 (i : Int) ∧ vs = .int .i64 s ∧ Hid (s = sumA (R.take i)) ∧ Below w7.heap.size w7 wr) (fun _ vi _ => N - (intOf vi).toNat)
      case atStart => exact ⟨0, 0, by omega, rfl, rfl, Lib.hid rfl, Below.refl _ _⟩
      case round =>
        obtain ⟨i, s, hi, rfl, rfl, HS, hb⟩ := hrel
        have hsb := okTo_sum (ls := R) (k := i) (fun j hj => HRK.out.1 j (by rw [HN.out]; omega)) (by rw [HN.out]; omega)
        rw [← HS.out] at hsb
        have hzb2 := hb.size
        by_cases hlt2 : i < N
        · obtain ⟨x0, x1, x2, hx⟩ : ∃ x0 x1 x2, lnAt R i = ⟨x0, x1, x2⟩ := ⟨_, _, _, rfl⟩
          have hxb := ln_acc HRK.out.1 (by rw [HN.out]; omega) hx
          have HX := Lib.hid hx
          obtain ⟨gb, off, rfl, hbB, hcell⟩ := ((Own.rd t hle).below hb (Nat.le_refl _)).form (by omega)
          obtain ⟨g0, g1, g2⟩ := lnCells_at (k := i) hx (by rw [HN.out]; omega)
          have c0 := hcell _ _ g0
          have c1 := hcell _ _ g1
          have c2 := hcell _ _ g2
          rw [← Nat.add_assoc] at c1 c2
          have i0 : (0 : Int) ≤ (i : Int) := by omega
          have i1 : (i : Int) < (N : Int) := by omega
          have HS2 := Lib.hid (sumA_take (ls := R) (k := i) (by rw [HN.out]; omega))
          clear hcell g0 g1 g2 hx
          go_wp2_with fail
          go_roundw
          case rel => exact ⟨i + 1, s + x2, by omega, by go_num, rfl, Lib.hid (by rw [HS2.out, HX.out, HS.out]), hb.alloc (by omega) _⟩
          case measure => simp [intOf]; omega
        · obtain rfl : N = i := by omega
          have hbW : Below W.heap.size W wr := b7.trans (hb.mono b7.size)
          replace o := Own.keep o (Eff.of hb) (.inr (.inr (Nat.le_refl _)))
          replace t := Own.keep t (Eff.of hb) (.inr (.inr (Nat.le_refl _)))
          replace r := Own.keep r (Eff.of hb) (.inr (.inr (Nat.le_refl _)))
          replace l_0 := (Eff.of hb).cell l_0 (.inr (Nat.zero_le _))
          replace l_1 := (Eff.of hb).cell l_1 (.inr (Nat.zero_le _))
          replace m_0 := (Eff.of hb).cell m_0 (.inr (Nat.zero_le _))
          replace m_1 := (Eff.of hb).cell m_1 (.inr (Nat.zero_le _))
          replace p_0 := (Eff.of hb).cell p_0 (.inr (Nat.zero_le _))
          replace p_1 := (Eff.of hb).cell p_1 (.inr (Nat.zero_le _))
          obtain rfl : s = 0 := by rw [HS.out, List.take_of_length_le (by rw [HN.out]; exact Nat.le_refl _)]; exact HRK.out.2.1
          clear HS hsb
          have i1 : ¬ (N : Int) < (N : Int) := by omega
          have cq : IntKind.i64.wrap (Q + 1) = Q + 1 := IntWalk.i64_in _ (by omega)
          obtain ⟨wb, rfl⟩ : ∃ x : World, x = wr := ⟨wr, rfl⟩
          have l_0P := (Eff.alloc wb (.cells #[.int .i64 (Q + 1), .slice none 0 0] 43)).cell l_0 (by simp only; omega)
          have l_1P := (Eff.alloc wb (.cells #[.int .i64 (Q + 1), .slice none 0 0] 43)).cell l_1 (by simp only; omega)
          have m_0P := (Eff.alloc wb (.cells #[.int .i64 (Q + 1), .slice none 0 0] 43)).cell m_0 (by simp only; omega)
          have m_1P := (Eff.alloc wb (.cells #[.int .i64 (Q + 1), .slice none 0 0] 43)).cell m_1 (by simp only; omega)
          have p_0P := (Eff.alloc wb (.cells #[.int .i64 (Q + 1), .slice none 0 0] 43)).cell p_0 (by simp only; omega)
          have p_1P := (Eff.alloc wb (.cells #[.int .i64 (Q + 1), .slice none 0 0] 43)).cell p_1 (by simp only; omega)
          go_wp2_with fail
          have he1 : Eff 0 0 wb (wb.alloc (.cells #[.int .i64 (Q + 1), .slice none 0 0] 43)) := Eff.alloc _ _
          have hs1 : (wb.alloc (.cells #[.int .i64 (Q + 1), .slice none 0 0] 43)).heap.size = wb.heap.size + 1 := (by simp)
          have q_0 : (wb.alloc (.cells #[.int .i64 (Q + 1), .slice none 0 0] 43)).cell? ⟨wb.heap.size, 0, none⟩ = some (.int .i64 (Q + 1)) := var_cell _ _ _ _ _ rfl
          have q_1 : (wb.alloc (.cells #[.int .i64 (Q + 1), .slice none 0 0] 43)).cell? ⟨wb.heap.size, 1, none⟩ = some (.slice none 0 0) := var_cell _ _ _ _ _ rfl
          have q_f0 : (wb.alloc (.cells #[.int .i64 (Q + 1), .slice none 0 0] 43)).frozen? ⟨wb.heap.size, 0, none⟩ = false := var_frozen _ _ _ _
          have q_f1 : (wb.alloc (.cells #[.int .i64 (Q + 1), .slice none 0 0] 43)).frozen? ⟨wb.heap.size, 1, none⟩ = false := var_frozen _ _ _ _
          generalize (wb.alloc (.cells #[.int .i64 (Q + 1), .slice none 0 0] 43)) = y1 at *
          have hz1 : wb.heap.size ≤ y1.heap.size := he1.size
          have b1 : Below W.heap.size W y1 := hbW.trans (he1.below hbW.size (by omega))
          replace o := Own.keep o he1 (by omega)
          replace t := Own.keep t he1 (by omega)
          replace r := Own.keep r he1 (by omega)
          replace l_0 := he1.cell l_0 (by simp only; omega)
          replace l_1 := he1.cell l_1 (by simp only; omega)
          replace m_0 := he1.cell m_0 (by simp only; omega)
          replace m_1 := he1.cell m_1 (by simp only; omega)
          replace p_0 := he1.cell p_0 (by simp only; omega)
          replace p_1 := he1.cell p_1 (by simp only; omega)
          have q_l : wb.heap.size < y1.heap.size := (by omega)
          clear l_0P l_1P m_0P m_1P p_0P p_1P
          have hqb : wb.heap.size < y1.heap.size := q_l
          clear hs1
          have hleR := Own.le r
          go_loopw [65] (fun vi wr => ∃ (i : Nat) (Aq : Option Addr) (cq : Nat), i ≤ n2 ∧ vi = .int .i64 (i : Int) ∧ OwnL wr (wb.heap.size + 1) wr.heap.size Aq i cq (negL (ps.take i)) ∧ wr.cell? ⟨wb.heap.size, 0, none⟩ = some (.int .i64 (Q + 1)) ∧ wr.cell? ⟨wb.heap.size, 1, none⟩ = some (.slice Aq i cq) ∧ wr.frozen? ⟨wb.heap.size, 0, none⟩ = false ∧ wr.frozen? ⟨wb.heap.size, 1, none⟩ = false ∧ Below wb.heap.size y1 wr ∧ y1.heap.size ≤ wr.heap.size) (fun vi _ => n2 - (intOf vi).toNat)
          case atStart => exact ⟨0, none, 0, by omega, rfl, Own.nil _ _ _ _ _ (Nat.le_refl _), q_0, q_1, q_f0, q_f1, Below.refl _ _, Nat.le_refl _⟩
          clear q_0 q_1 q_f0 q_f1
          case round =>
            obtain ⟨i, Aq, cq2, hi, rfl, oq, q_0, q_1, q_f0, q_f1, hb, hzr⟩ := hrel
            have hn8 : n2 ≤ 8 := by have := HPK.out.2.2.2.2; rw [HNL.out] at this; exact this
            by_cases hlt2 : i < n2
            · obtain ⟨x0, x1, x2, hx⟩ : ∃ x0 x1 x2, lnAt ps i = ⟨x0, x1, x2⟩ := ⟨_, _, _, rfl⟩
              have hxb := ln_acc HPK.out.1 (by rw [HNL.out]; omega) hx
              have HX := Lib.hid hx
              have hrr := (Own.rd r (by omega)).keep (fun a ha => hb.cell ha)
              obtain ⟨gb, off, rfl, hbB, hcell⟩ := hrr.form (by omega)
              obtain ⟨g0, g1, g2⟩ := lnCells_at (k := i) hx (by rw [HNL.out]; omega)
              have c0 := hcell _ _ g0
              have c1 := hcell _ _ g1
              have c2 := hcell _ _ g2
              rw [← Nat.add_assoc] at c1 c2
              have i0 : (0 : Int) ≤ (i : Int) := by omega
              have i1 : (i : Int) < (n2 : Int) := by omega
              have cn : IntKind.i64.wrap (-x2) = -x2 := IntWalk.i64_in _ (by omega)
              have HS2 := Lib.hid (negL_take (ps := ps) (k := i) (by rw [HNL.out]; omega))
              obtain ⟨i0', hi0, hj0, hj1, hj2⟩ := info_parts info_Line
              have q_1P := (Eff.alloc wr (.cells #[.int .i64 x0, .int .i64 x1, .int .i64 x2] 63)).cell q_1 (.inr (Nat.zero_le _))
              have hzq : wb.heap.size < wr.heap.size := by omega
              clear hcell g0 g1 g2 hx
              have tok1 : True := trivial
              go_wp2_with (have _t := tok1; at_builtin; have he1 : Eff 0 0 wr (wr.alloc (.cells #[.int .i64 x0, .int .i64 x1, .int .i64 x2] 63)) := Eff.alloc _ _; have hs1 : (wr.alloc (.cells #[.int .i64 x0, .int .i64 x1, .int .i64 x2] 63)).heap.size = wr.heap.size + 1 := (by simp); have x_0 : (wr.alloc (.cells #[.int .i64 x0, .int .i64 x1, .int .i64 x2] 63)).cell? ⟨wr.heap.size, 0, none⟩ = some (.int .i64 x0) := var_cell _ _ _ _ _ rfl; have x_1 : (wr.alloc (.cells #[.int .i64 x0, .int .i64 x1, .int .i64 x2] 63)).cell? ⟨wr.heap.size, 1, none⟩ = some (.int .i64 x1) := var_cell _ _ _ _ _ rfl; have x_2 : (wr.alloc (.cells #[.int .i64 x0, .int .i64 x1, .int .i64 x2] 63)).cell? ⟨wr.heap.size, 2, none⟩ = some (.int .i64 x2) := var_cell _ _ _ _ _ rfl; generalize (wr.alloc (.cells #[.int .i64 x0, .int .i64 x1, .int .i64 x2] 63)) = v1 at *; have hz1 : wr.heap.size ≤ v1.heap.size := he1.size; replace oq := Own.keep oq he1 (by omega); replace q_f0 := (he1.frozen q_0 (by simp only; omega)).trans q_f0; replace q_f1 := (he1.frozen q_1 (by simp only; omega)).trans q_f1; replace q_0 := he1.cell q_0 (by simp only; omega); replace q_1 := he1.cell q_1 (by simp only; omega); have x_l : wr.heap.size < v1.heap.size := (by omega); clear x_0; clear x_1; clear x_2; refine wpList_app _ rfl _ _ 25 rfl 63 i0' (.agg #[.int .i64 0, .int .i64 0, .int .i64 0]) 3 24 Try.underlying25 hi0 hj0 hj1 hj2 rfl (by omega) rfl (Own.alloc oq _) 1 rfl (by rw [show (⟨wr.heap.size + 1, 0, none⟩ : Addr) = ⟨v1.heap.size, 0, none⟩ by rw [hs1]]; exact rd_new3 _ (.int .i64 (x0)) (.int .i64 (x1)) (.int .i64 (-x2)) 63) (one3 _ _ _) (by unfold maxLen; omega) (by omega) (by first | (simp; done) | (simp; omega)) ?_; intro Aoq2 coq2 v2 oq2 hE _; clear tok1 _t; have he2 : Eff (wb.heap.size + 1) (wr.heap.size) v1 v2 := ((Eff.refl _ _ _).new _).trans hE; have hz2 : v1.heap.size ≤ v2.heap.size := he2.size; replace q_f0 := (he2.frozen q_0 (by simp only; omega)).trans q_f0; replace q_f1 := (he2.frozen q_1 (by simp only; omega)).trans q_f1; replace q_0 := he2.cell q_0 (by simp only; omega); replace q_1 := he2.cell q_1 (by simp only; omega); replace x_l := Nat.lt_of_lt_of_le x_l hz2; clear hE oq; replace oq2 : OwnL v2 (wb.heap.size + 1) v2.heap.size Aoq2 (i + 1) coq2 _ := lnCells_snoc _ (x0) (x1) (-x2) ▸ oq2)
              go_roundw
              case rel =>
                have es := eff_set v2 (wb.heap.size) 1 (.slice Aoq2 (i + 1) coq2)
                refine ⟨i + 1, Aoq2, coq2, by omega, by go_num, ?_, set_other q_0 _ (.inr (by omega)), set_same q_1 _, set_frozen q_f0 _, set_frozen q_f1 _, ((hb.trans (he1.below (by omega) (by omega))).trans (he2.below (by omega) (by omega))).trans (es.below (by omega) (by omega)), by have := es.size; omega⟩
                rw [HS2.out, HX.out]
                exact Own.wide (Own.keep oq2 es (by omega)) (Nat.le_refl _) (by have := es.size; omega) (Nat.le_refl _)
              case measure => simp [intOf]; omega
            · obtain rfl : n2 = i := by omega
              have hbK : Below W.heap.size W wr := b1.trans (hb.mono (by omega))
              have he0 : Eff wb.heap.size y1.heap.size y1 wr := Eff.of_low hb
              replace o := Own.keep o he0 (by omega)
              replace t := Own.keep t he0 (by omega)
              replace l_0 := he0.cell l_0 (by simp only; omega)
              replace l_1 := he0.cell l_1 (by simp only; omega)
              replace m_0 := he0.cell m_0 (by simp only; omega)
              replace m_1 := he0.cell m_1 (by simp only; omega)
              replace p_0 := he0.cell p_0 (by simp only; omega)
              replace p_1 := he0.cell p_1 (by simp only; omega)
              have hq8 : negL (ps.take n2) = negL ps := by rw [List.take_of_length_le (by rw [HNL.out]; exact Nat.le_refl _)]
              rw [hq8] at oq
              clear hq8 r
              have i1 : ¬ (n2 : Int) < (n2 : Int) := by omega
              have HO := Lib.hid HLK.out
              rcases HAG.out with ⟨hp1, hpo⟩ | ⟨hp1, hpo⟩
              · skip
                have HQ2 : Hid ((postR Q R (Q + 1) (negL ps)).1 = Q + 1) := Lib.hid (by rw [hpo])
                have HR2 : Hid ((postR Q R (Q + 1) (negL ps)).2.1 = ls) := Lib.hid (by rw [hpo])
                have HC2 : Hid ((postR Q R (Q + 1) (negL ps)).2.2 = 0) := Lib.hid (by rw [hpo])
                clear hpo
                go_wp2_with fail
                refine (impl_PostR HQ2.out HR2.out HC2.out _ N _ _ n2 _ wr (Own.rd t (Own.le t)) (Own.rd oq (Own.le oq)) (by omega) (by omega) (Own.caps t) (Own.caps oq)).mono ?_
                rintro e k1 hpost
                obtain ⟨Av, nv, cv, hnv, rfl, v, hb2⟩ := hpost
                have hb := hb2
                clear hb2
                obtain rfl : m = nv := (hnv.trans HML.out).symm
                clear hnv
                have he1 : Eff 0 0 wr k1 := Eff.of hb
                have hz1 : wr.heap.size ≤ k1.heap.size := he1.size
                have b1 : Below W.heap.size W k1 := hbK.trans (he1.below hbK.size (by omega))
                replace o := Own.keep o he1 (by omega)
                replace t := Own.keep t he1 (by omega)
                replace oq := Own.keep oq he1 (by omega)
                replace l_0 := he1.cell l_0 (by simp only; omega)
                replace l_1 := he1.cell l_1 (by simp only; omega)
                replace m_0 := he1.cell m_0 (by simp only; omega)
                replace m_1 := he1.cell m_1 (by simp only; omega)
                replace p_0 := he1.cell p_0 (by simp only; omega)
                replace p_1 := he1.cell p_1 (by simp only; omega)
                replace q_0 := he1.cell q_0 (by simp only; omega)
                replace q_1 := he1.cell q_1 (by simp only; omega)
                clear hb
                have l_0P := (Eff.alloc k1 (.cells #[.int .i64 (Q + 1), .slice Av m cv] 34)).cell l_0 (by simp only; omega)
                have l_1P := (Eff.alloc k1 (.cells #[.int .i64 (Q + 1), .slice Av m cv] 34)).cell l_1 (by simp only; omega)
                have m_0P := (Eff.alloc k1 (.cells #[.int .i64 (Q + 1), .slice Av m cv] 34)).cell m_0 (by simp only; omega)
                have m_1P := (Eff.alloc k1 (.cells #[.int .i64 (Q + 1), .slice Av m cv] 34)).cell m_1 (by simp only; omega)
                have p_0P := (Eff.alloc k1 (.cells #[.int .i64 (Q + 1), .slice Av m cv] 34)).cell p_0 (by simp only; omega)
                have p_1P := (Eff.alloc k1 (.cells #[.int .i64 (Q + 1), .slice Av m cv] 34)).cell p_1 (by simp only; omega)
                have q_0P := (Eff.alloc k1 (.cells #[.int .i64 (Q + 1), .slice Av m cv] 34)).cell q_0 (by simp only; omega)
                have q_1P := (Eff.alloc k1 (.cells #[.int .i64 (Q + 1), .slice Av m cv] 34)).cell q_1 (by simp only; omega)
                go_wp2_with fail
                have he2 : Eff 0 0 k1 (k1.alloc (.cells #[.int .i64 (Q + 1), .slice Av m cv] 34)) := Eff.alloc _ _
                have hs2 : (k1.alloc (.cells #[.int .i64 (Q + 1), .slice Av m cv] 34)).heap.size = k1.heap.size + 1 := (by simp)
                have nn_0 : (k1.alloc (.cells #[.int .i64 (Q + 1), .slice Av m cv] 34)).cell? ⟨k1.heap.size, 0, none⟩ = some (.int .i64 (Q + 1)) := var_cell _ _ _ _ _ rfl
                have nn_1 : (k1.alloc (.cells #[.int .i64 (Q + 1), .slice Av m cv] 34)).cell? ⟨k1.heap.size, 1, none⟩ = some (.slice Av m cv) := var_cell _ _ _ _ _ rfl
                generalize (k1.alloc (.cells #[.int .i64 (Q + 1), .slice Av m cv] 34)) = k2 at *
                have hz2 : k1.heap.size ≤ k2.heap.size := he2.size
                have b2 : Below W.heap.size W k2 := b1.trans (he2.below b1.size (by omega))
                replace o := Own.keep o he2 (by omega)
                replace t := Own.keep t he2 (by omega)
                replace oq := Own.keep oq he2 (by omega)
                replace v := Own.keep v he2 (by omega)
                replace l_0 := he2.cell l_0 (by simp only; omega)
                replace l_1 := he2.cell l_1 (by simp only; omega)
                replace m_0 := he2.cell m_0 (by simp only; omega)
                replace m_1 := he2.cell m_1 (by simp only; omega)
                replace p_0 := he2.cell p_0 (by simp only; omega)
                replace p_1 := he2.cell p_1 (by simp only; omega)
                replace q_0 := he2.cell q_0 (by simp only; omega)
                replace q_1 := he2.cell q_1 (by simp only; omega)
                have nn_l : k1.heap.size < k2.heap.size := (by omega)
                clear l_0P l_1P m_0P m_1P p_0P p_1P q_0P q_1P
                clear hs2
                refine (impl_LedgerOk Q _ N _ R k2 (Own.rd t (Own.le t)) (by omega)).mono ?_
                rintro e k3 ⟨rfl, hb⟩
                rw [HO.out]
                have he3 : Eff 0 0 k2 k3 := Eff.of hb
                have hz3 : k2.heap.size ≤ k3.heap.size := he3.size
                have b3 : Below W.heap.size W k3 := b2.trans (he3.below b2.size (by omega))
                replace o := Own.keep o he3 (by omega)
                replace t := Own.keep t he3 (by omega)
                replace oq := Own.keep oq he3 (by omega)
                replace v := Own.keep v he3 (by omega)
                replace l_0 := he3.cell l_0 (by simp only; omega)
                replace l_1 := he3.cell l_1 (by simp only; omega)
                replace m_0 := he3.cell m_0 (by simp only; omega)
                replace m_1 := he3.cell m_1 (by simp only; omega)
                replace p_0 := he3.cell p_0 (by simp only; omega)
                replace p_1 := he3.cell p_1 (by simp only; omega)
                replace q_0 := he3.cell q_0 (by simp only; omega)
                replace q_1 := he3.cell q_1 (by simp only; omega)
                replace nn_0 := he3.cell nn_0 (by simp only; omega)
                replace nn_1 := he3.cell nn_1 (by simp only; omega)
                replace nn_l := Nat.lt_of_lt_of_le nn_l hz3
                clear hb
                go_wp2_with fail
                refine (sameLines_yes Av m cv A1 c1 ls k3 (Own.rd v (Own.le v)) (Own.rd o (Own.le o)) (by omega)).mono ?_
                rintro e k4 ⟨rfl, hb⟩
                have he4 : Eff 0 0 k3 k4 := Eff.of hb
                have hz4 : k3.heap.size ≤ k4.heap.size := he4.size
                have b4 : Below W.heap.size W k4 := b3.trans (he4.below b3.size (by omega))
                replace o := Own.keep o he4 (by omega)
                replace t := Own.keep t he4 (by omega)
                replace oq := Own.keep oq he4 (by omega)
                replace v := Own.keep v he4 (by omega)
                replace l_0 := he4.cell l_0 (by simp only; omega)
                replace l_1 := he4.cell l_1 (by simp only; omega)
                replace m_0 := he4.cell m_0 (by simp only; omega)
                replace m_1 := he4.cell m_1 (by simp only; omega)
                replace p_0 := he4.cell p_0 (by simp only; omega)
                replace p_1 := he4.cell p_1 (by simp only; omega)
                replace q_0 := he4.cell q_0 (by simp only; omega)
                replace q_1 := he4.cell q_1 (by simp only; omega)
                replace nn_0 := he4.cell nn_0 (by simp only; omega)
                replace nn_1 := he4.cell nn_1 (by simp only; omega)
                replace nn_l := Nat.lt_of_lt_of_le nn_l hz4
                clear hb
                go_wp2_with fail
                go_ret
                exact ⟨rfl, b4⟩
              · skip
                have HQ2 : Hid ((postR Q R (Q + 1) (negL ps)).1 = 0) := Lib.hid (by rw [hpo])
                have HR2 : Hid ((postR Q R (Q + 1) (negL ps)).2.1 = []) := Lib.hid (by rw [hpo])
                have HC2 : Hid ((postR Q R (Q + 1) (negL ps)).2.2 = 1) := Lib.hid (by rw [hpo])
                clear hpo
                subst hp1
                go_wp2_with fail
                refine (impl_PostR HQ2.out HR2.out HC2.out _ N _ _ n2 _ wr (Own.rd t (Own.le t)) (Own.rd oq (Own.le oq)) (by omega) (by omega) (Own.caps t) (Own.caps oq)).mono ?_
                rintro e k1 hpost
                obtain ⟨Av, nv, cv, hnv, rfl, v, hb2⟩ := hpost
                have hb := hb2
                clear hb2
                obtain rfl : nv = 0 := hnv
                have he1 : Eff 0 0 wr k1 := Eff.of hb
                have hz1 : wr.heap.size ≤ k1.heap.size := he1.size
                have b1 : Below W.heap.size W k1 := hbK.trans (he1.below hbK.size (by omega))
                replace o := Own.keep o he1 (by omega)
                replace t := Own.keep t he1 (by omega)
                replace oq := Own.keep oq he1 (by omega)
                replace l_0 := he1.cell l_0 (by simp only; omega)
                replace l_1 := he1.cell l_1 (by simp only; omega)
                replace m_0 := he1.cell m_0 (by simp only; omega)
                replace m_1 := he1.cell m_1 (by simp only; omega)
                replace p_0 := he1.cell p_0 (by simp only; omega)
                replace p_1 := he1.cell p_1 (by simp only; omega)
                replace q_0 := he1.cell q_0 (by simp only; omega)
                replace q_1 := he1.cell q_1 (by simp only; omega)
                clear hb
                have l_0P := (Eff.alloc k1 (.cells #[.int .i64 0, .slice Av 0 cv] 34)).cell l_0 (by simp only; omega)
                have l_1P := (Eff.alloc k1 (.cells #[.int .i64 0, .slice Av 0 cv] 34)).cell l_1 (by simp only; omega)
                have m_0P := (Eff.alloc k1 (.cells #[.int .i64 0, .slice Av 0 cv] 34)).cell m_0 (by simp only; omega)
                have m_1P := (Eff.alloc k1 (.cells #[.int .i64 0, .slice Av 0 cv] 34)).cell m_1 (by simp only; omega)
                have p_0P := (Eff.alloc k1 (.cells #[.int .i64 0, .slice Av 0 cv] 34)).cell p_0 (by simp only; omega)
                have p_1P := (Eff.alloc k1 (.cells #[.int .i64 0, .slice Av 0 cv] 34)).cell p_1 (by simp only; omega)
                have q_0P := (Eff.alloc k1 (.cells #[.int .i64 0, .slice Av 0 cv] 34)).cell q_0 (by simp only; omega)
                have q_1P := (Eff.alloc k1 (.cells #[.int .i64 0, .slice Av 0 cv] 34)).cell q_1 (by simp only; omega)
                go_wp2_with fail
                have he2 : Eff 0 0 k1 (k1.alloc (.cells #[.int .i64 0, .slice Av 0 cv] 34)) := Eff.alloc _ _
                have hs2 : (k1.alloc (.cells #[.int .i64 0, .slice Av 0 cv] 34)).heap.size = k1.heap.size + 1 := (by simp)
                have nn_0 : (k1.alloc (.cells #[.int .i64 0, .slice Av 0 cv] 34)).cell? ⟨k1.heap.size, 0, none⟩ = some (.int .i64 0) := var_cell _ _ _ _ _ rfl
                have nn_1 : (k1.alloc (.cells #[.int .i64 0, .slice Av 0 cv] 34)).cell? ⟨k1.heap.size, 1, none⟩ = some (.slice Av 0 cv) := var_cell _ _ _ _ _ rfl
                generalize (k1.alloc (.cells #[.int .i64 0, .slice Av 0 cv] 34)) = k2 at *
                have hz2 : k1.heap.size ≤ k2.heap.size := he2.size
                have b2 : Below W.heap.size W k2 := b1.trans (he2.below b1.size (by omega))
                replace o := Own.keep o he2 (by omega)
                replace t := Own.keep t he2 (by omega)
                replace oq := Own.keep oq he2 (by omega)
                replace v := Own.keep v he2 (by omega)
                replace l_0 := he2.cell l_0 (by simp only; omega)
                replace l_1 := he2.cell l_1 (by simp only; omega)
                replace m_0 := he2.cell m_0 (by simp only; omega)
                replace m_1 := he2.cell m_1 (by simp only; omega)
                replace p_0 := he2.cell p_0 (by simp only; omega)
                replace p_1 := he2.cell p_1 (by simp only; omega)
                replace q_0 := he2.cell q_0 (by simp only; omega)
                replace q_1 := he2.cell q_1 (by simp only; omega)
                have nn_l : k1.heap.size < k2.heap.size := (by omega)
                clear l_0P l_1P m_0P m_1P p_0P p_1P q_0P q_1P
                clear hs2
                refine (impl_LedgerOk 1125899906842624 _ N _ R k2 (Own.rd t (Own.le t)) (by omega)).mono ?_
                rintro e k3 ⟨rfl, hb⟩
                rw [HO.out]
                have he3 : Eff 0 0 k2 k3 := Eff.of hb
                have hz3 : k2.heap.size ≤ k3.heap.size := he3.size
                have b3 : Below W.heap.size W k3 := b2.trans (he3.below b2.size (by omega))
                replace o := Own.keep o he3 (by omega)
                replace t := Own.keep t he3 (by omega)
                replace oq := Own.keep oq he3 (by omega)
                replace v := Own.keep v he3 (by omega)
                replace l_0 := he3.cell l_0 (by simp only; omega)
                replace l_1 := he3.cell l_1 (by simp only; omega)
                replace m_0 := he3.cell m_0 (by simp only; omega)
                replace m_1 := he3.cell m_1 (by simp only; omega)
                replace p_0 := he3.cell p_0 (by simp only; omega)
                replace p_1 := he3.cell p_1 (by simp only; omega)
                replace q_0 := he3.cell q_0 (by simp only; omega)
                replace q_1 := he3.cell q_1 (by simp only; omega)
                replace nn_0 := he3.cell nn_0 (by simp only; omega)
                replace nn_1 := he3.cell nn_1 (by simp only; omega)
                replace nn_l := Nat.lt_of_lt_of_le nn_l hz3
                clear hb
                go_wp2_with fail
                go_ret
                exact ⟨rfl, b3⟩
    · skip
      obtain ⟨h1, h2⟩ := postR_not (q := q) (p := p) (ls := ls) (ps := ps) (by rw [HC.out]; exact hcd)
      obtain rfl : N = 0 := by rw [← HN.out, ← HR.out, h2]; rfl
      have hcz : (Cd != 0) = true := by simp; exact hcd
      clear h1 h2 hcd
      have l_0P := (Eff.alloc w6 (.cells #[.int .i64 Q, .slice Au 0 cu] 34)).cell l_0 (by simp only; omega)
      have l_1P := (Eff.alloc w6 (.cells #[.int .i64 Q, .slice Au 0 cu] 34)).cell l_1 (by simp only; omega)
      have p_0P := (Eff.alloc w6 (.cells #[.int .i64 Q, .slice Au 0 cu] 34)).cell p_0 (by simp only; omega)
      have p_1P := (Eff.alloc w6 (.cells #[.int .i64 Q, .slice Au 0 cu] 34)).cell p_1 (by simp only; omega)
      have m_0P := (Eff.alloc w6 (.cells #[.int .i64 Q, .slice Au 0 cu] 34)).cell m_0 (by simp only; omega)
      have m_1P := (Eff.alloc w6 (.cells #[.int .i64 Q, .slice Au 0 cu] 34)).cell m_1 (by simp only; omega)
      go_wp2_with fail
      go_ret
      exact ⟨rfl, b6.trans ((Below.refl _ _).alloc (by omega) _)⟩
end Go.Proofs.Ytgjphejmppehjaa
