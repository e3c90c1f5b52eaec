/- The walk of FnWorth. -/
import Derived.Test.YtgjphejmppehjaaZwp
namespace Go.Proofs.Ytgjphejmppehjaa
open Go.RowKit
set_option maxHeartbeats 4000000 in
set_option maxRecDepth 100000 in
theorem walk_FnWorth (A : Option Addr) (n c : Nat) (l : List UInt8) (W : World) (_hnc : n ≤ c) (_hm : c ≤ maxLen) (hr : Rd W W.heap.size 1 A n (Lib.byteCells l)) :
    Calls Try.prog 10 #[.slice A n c] W fun e w' => e = .returned (.bool true) ∧ Below W.heap.size W w' := by
  by_cases hn1 : 1048576 < n
  · unfold maxLen at _hm
    go_enter Try.func10, Try.ntmps10
    go_wp2
    go_ret
    exact ⟨rfl, Below.refl _ _⟩
  · have hn : n ≤ 1048576 := by omega
    clear hn1
    go_enter Try.func10, Try.ntmps10
    go_wp2_with fail
    refine (DrawPost_any W A n c l (hr.more (by omega)) hn).mono ?_
    rintro e w1 ⟨q, A1, m, c1, ls, p, A2, n2, c2, ps, rfl, hm, hn2, o, r, hb⟩
    have he1 : Eff 0 0 W w1 := Eff.of hb
    have hz1 : W.heap.size ≤ w1.heap.size := he1.size
    have b1 : Below W.heap.size W w1 := he1.below (Nat.le_refl _) (by omega)
    replace hr := (hr.below (he1.below (B := W.heap.size) (by omega) (by omega)) (Nat.le_refl _))
    clear hb
    clear hr
    obtain ⟨Q, hQ⟩ : ∃ x, (postR q ls p ps).1 = x := ⟨_, rfl⟩
    obtain ⟨R, hR⟩ : ∃ x, (postR q ls p ps).2.1 = x := ⟨_, rfl⟩
    obtain ⟨Cd, hC⟩ : ∃ x, (postR q ls p ps).2.2 = x := ⟨_, rfl⟩
    obtain ⟨N, hN⟩ : ∃ N, R.length = N := ⟨_, rfl⟩
    have hN2 : N ≤ 302 := by rw [← hN, ← hR]; exact postR_len q ls p ps
    have hml := lnlen_of_own o
    have hnl := lnlen_of_own r
    have HML := Lib.hid hml
    have HNL := Lib.hid hnl
    have HQ := Lib.hid hQ
    have HR := Lib.hid hR
    have HC := Lib.hid hC
    have HN := Lib.hid hN
    have hcc : (Cd != Cd) = false := by simp
    clear hQ hR hC hN hml hnl
    go_wp2_with fail
    have he2 : Eff 0 0 w1 (w1.alloc (.cells #[.int .i64 q, .slice A1 m c1] 34)) := Eff.alloc _ _
    have hs2 : (w1.alloc (.cells #[.int .i64 q, .slice A1 m c1] 34)).heap.size = w1.heap.size + 1 := (by simp)
    have l_0 : (w1.alloc (.cells #[.int .i64 q, .slice A1 m c1] 34)).cell? ⟨w1.heap.size, 0, none⟩ = some (.int .i64 q) := var_cell _ _ _ _ _ rfl
    have l_1 : (w1.alloc (.cells #[.int .i64 q, .slice A1 m c1] 34)).cell? ⟨w1.heap.size, 1, none⟩ = some (.slice A1 m c1) := var_cell _ _ _ _ _ rfl
    generalize (w1.alloc (.cells #[.int .i64 q, .slice A1 m c1] 34)) = w2 at *
    have hz2 : w1.heap.size ≤ w2.heap.size := he2.size
    have b2 : Below W.heap.size W w2 := b1.trans (he2.below b1.size (by omega))
    replace o := Own.keep o he2 (by omega)
    replace r := Own.keep r he2 (by omega)
    have l_l : w1.heap.size < w2.heap.size := (by omega)
    have he3 : Eff 0 0 w2 (w2.alloc (.cells #[.int .i64 p, .slice A2 n2 c2] 43)) := Eff.alloc _ _
    have hs3 : (w2.alloc (.cells #[.int .i64 p, .slice A2 n2 c2] 43)).heap.size = w2.heap.size + 1 := (by simp)
    have p_0 : (w2.alloc (.cells #[.int .i64 p, .slice A2 n2 c2] 43)).cell? ⟨w2.heap.size, 0, none⟩ = some (.int .i64 p) := var_cell _ _ _ _ _ rfl
    have p_1 : (w2.alloc (.cells #[.int .i64 p, .slice A2 n2 c2] 43)).cell? ⟨w2.heap.size, 1, none⟩ = some (.slice A2 n2 c2) := var_cell _ _ _ _ _ rfl
    generalize (w2.alloc (.cells #[.int .i64 p, .slice A2 n2 c2] 43)) = w3 at *
    have hz3 : w2.heap.size ≤ w3.heap.size := he3.size
    have b3 : Below W.heap.size W w3 := b2.trans (he3.below b2.size (by omega))
    replace o := Own.keep o he3 (by omega)
    replace r := Own.keep r he3 (by omega)
    replace l_0 := he3.cell l_0 (by simp only; omega)
    replace l_1 := he3.cell l_1 (by simp only; omega)
    replace l_l := Nat.lt_of_lt_of_le l_l hz3
    rw [hs2] at p_0
    rw [hs2] at p_1
    have p_l : w1.heap.size + 1 < w3.heap.size := (by omega)
    clear hs2 hs3
    refine (impl_PostR HQ.out HR.out HC.out _ m _ _ n2 _ w3 (Own.rd o (Own.le o)) (Own.rd r (Own.le r)) (by omega) (by omega) (Own.caps o) (Own.caps r)).mono ?_
    rintro e w4 hpost
    obtain ⟨At, nt, ct, hnt, rfl, t, hb⟩ := hpost
    rw [HN.out] at hnt
    obtain rfl : N = nt := hnt.symm
    clear hnt
    have he4 : Eff 0 0 w3 w4 := Eff.of hb
    have hz4 : w3.heap.size ≤ w4.heap.size := he4.size
    have b4 : Below W.heap.size W w4 := b3.trans (he4.below b3.size (by omega))
    replace o := Own.keep o he4 (by omega)
    replace r := Own.keep r he4 (by omega)
    replace l_0 := he4.cell l_0 (by simp only; omega)
    replace l_1 := he4.cell l_1 (by simp only; omega)
    replace p_0 := he4.cell p_0 (by simp only; omega)
    replace p_1 := he4.cell p_1 (by simp only; omega)
    replace l_l := Nat.lt_of_lt_of_le l_l hz4
    replace p_l := Nat.lt_of_lt_of_le p_l hz4
    clear hb
    have l_0P := (Eff.alloc w4 (.cells #[.int .i64 Q, .slice At N ct] 34)).cell l_0 (by simp only; omega)
    have l_1P := (Eff.alloc w4 (.cells #[.int .i64 Q, .slice At N ct] 34)).cell l_1 (by simp only; omega)
    have p_0P := (Eff.alloc w4 (.cells #[.int .i64 Q, .slice At N ct] 34)).cell p_0 (by simp only; omega)
    have p_1P := (Eff.alloc w4 (.cells #[.int .i64 Q, .slice At N ct] 34)).cell p_1 (by simp only; omega)
    go_wp2_with fail
    have he5 : Eff 0 0 w4 (w4.alloc (.cells #[.int .i64 Q, .slice At N ct] 34)) := Eff.alloc _ _
    have hs5 : (w4.alloc (.cells #[.int .i64 Q, .slice At N ct] 34)).heap.size = w4.heap.size + 1 := (by simp)
    have m_0 : (w4.alloc (.cells #[.int .i64 Q, .slice At N ct] 34)).cell? ⟨w4.heap.size, 0, none⟩ = some (.int .i64 Q) := var_cell _ _ _ _ _ rfl
    have m_1 : (w4.alloc (.cells #[.int .i64 Q, .slice At N ct] 34)).cell? ⟨w4.heap.size, 1, none⟩ = some (.slice At N ct) := var_cell _ _ _ _ _ rfl
    generalize (w4.alloc (.cells #[.int .i64 Q, .slice At N ct] 34)) = w5 at *
    have hz5 : w4.heap.size ≤ w5.heap.size := he5.size
    have b5 : Below W.heap.size W w5 := b4.trans (he5.below b4.size (by omega))
    replace o := Own.keep o he5 (by omega)
    replace r := Own.keep r he5 (by omega)
    replace t := Own.keep t he5 (by omega)
    replace l_0 := he5.cell l_0 (by simp only; omega)
    replace l_1 := he5.cell l_1 (by simp only; omega)
    replace p_0 := he5.cell p_0 (by simp only; omega)
    replace p_1 := he5.cell p_1 (by simp only; omega)
    replace l_l := Nat.lt_of_lt_of_le l_l hz5
    replace p_l := Nat.lt_of_lt_of_le p_l hz5
    have m_l : w4.heap.size < w5.heap.size := (by omega)
    clear l_0P l_1P p_0P p_1P
    clear hs5
    refine (spec_PostR HQ.out HR.out HC.out _ m _ _ n2 _ w5 (Own.rd o (Own.le o)) (Own.rd r (Own.le r)) (by omega) (by omega) (Own.caps o) (Own.caps r)).mono ?_
    rintro e w6 hpost
    obtain ⟨Au, nu, cu, hnu, rfl, u, hb⟩ := hpost
    rw [HN.out] at hnu
    obtain rfl : N = nu := hnu.symm
    clear hnu
    have he6 : Eff 0 0 w5 w6 := Eff.of hb
    have hz6 : w5.heap.size ≤ w6.heap.size := he6.size
    have b6 : Below W.heap.size W w6 := b5.trans (he6.below b5.size (by omega))
    replace o := Own.keep o he6 (by omega)
    replace r := Own.keep r he6 (by omega)
    replace t := Own.keep t he6 (by omega)
    replace l_0 := he6.cell l_0 (by simp only; omega)
    replace l_1 := he6.cell l_1 (by simp only; omega)
    replace p_0 := he6.cell p_0 (by simp only; omega)
    replace p_1 := he6.cell p_1 (by simp only; omega)
    replace m_0 := he6.cell m_0 (by simp only; omega)
    replace m_1 := he6.cell m_1 (by simp only; omega)
    replace l_l := Nat.lt_of_lt_of_le l_l hz6
    replace p_l := Nat.lt_of_lt_of_le p_l hz6
    replace m_l := Nat.lt_of_lt_of_le m_l hz6
    clear hb
    by_cases hcd : Cd = 0
    · skip
      subst hcd
      have hcz : ((0 : Int) != 0) = false := by decide
      obtain ⟨h1, h2, h3, h4⟩ := postR_zero HC.out
      have hpk := pst_ok h2
      have hQp : Q = p := by rw [← HQ.out, h4]
      have hRm : R = mrgU ls ps := by rw [← HR.out, h4]
      have hww : wor Q R = wor q ls - restA ps := by rw [hQp, hRm]; exact post_worth HC.out
      obtain ⟨z, hz⟩ : ∃ z, wor q ls = z := ⟨_, rfl⟩
      have hzb := wor_bd q ls
      rw [hz] at hww hzb
      have HWW := Lib.hid hww
      have HZ := Lib.hid hz
      have HPK := Lib.hid hpk
      clear h1 h2 h3 h4 hpk hQp hRm hww hz
      have l_0P := (Eff.alloc w6 (.cells #[.int .i64 Q, .slice Au N cu] 34)).cell l_0 (by simp only; omega)
      have l_1P := (Eff.alloc w6 (.cells #[.int .i64 Q, .slice Au N cu] 34)).cell l_1 (by simp only; omega)
      have p_0P := (Eff.alloc w6 (.cells #[.int .i64 Q, .slice Au N cu] 34)).cell p_0 (by simp only; omega)
      have p_1P := (Eff.alloc w6 (.cells #[.int .i64 Q, .slice Au N cu] 34)).cell p_1 (by simp only; omega)
      have m_0P := (Eff.alloc w6 (.cells #[.int .i64 Q, .slice Au N cu] 34)).cell m_0 (by simp only; omega)
      have m_1P := (Eff.alloc w6 (.cells #[.int .i64 Q, .slice Au N cu] 34)).cell m_1 (by simp only; omega)
      go_wp2_with fail
      have he7 : Eff 0 0 w6 (w6.alloc (.cells #[.int .i64 Q, .slice Au N cu] 34)) := Eff.alloc _ _
      have hs7 : (w6.alloc (.cells #[.int .i64 Q, .slice Au N cu] 34)).heap.size = w6.heap.size + 1 := (by simp)
      have ws_0 : (w6.alloc (.cells #[.int .i64 Q, .slice Au N cu] 34)).cell? ⟨w6.heap.size, 0, none⟩ = some (.int .i64 Q) := var_cell _ _ _ _ _ rfl
      have ws_1 : (w6.alloc (.cells #[.int .i64 Q, .slice Au N cu] 34)).cell? ⟨w6.heap.size, 1, none⟩ = some (.slice Au N cu) := var_cell _ _ _ _ _ rfl
      generalize (w6.alloc (.cells #[.int .i64 Q, .slice Au N cu] 34)) = w7 at *
      have hz7 : w6.heap.size ≤ w7.heap.size := he7.size
      have b7 : Below W.heap.size W w7 := b6.trans (he7.below b6.size (by omega))
      replace o := Own.keep o he7 (by omega)
      replace r := Own.keep r he7 (by omega)
      replace t := Own.keep t he7 (by omega)
      replace u := Own.keep u he7 (by omega)
      replace l_0 := he7.cell l_0 (by simp only; omega)
      replace l_1 := he7.cell l_1 (by simp only; omega)
      replace p_0 := he7.cell p_0 (by simp only; omega)
      replace p_1 := he7.cell p_1 (by simp only; omega)
      replace m_0 := he7.cell m_0 (by simp only; omega)
      replace m_1 := he7.cell m_1 (by simp only; omega)
      replace l_l := Nat.lt_of_lt_of_le l_l hz7
      replace p_l := Nat.lt_of_lt_of_le p_l hz7
      replace m_l := Nat.lt_of_lt_of_le m_l hz7
      have ws_l : w6.heap.size < w7.heap.size := (by omega)
      clear l_0P l_1P p_0P p_1P m_0P m_1P
      clear hs7
      have hle := Own.le r
      go_loopw [9, 43] (fun vs vi wr => ∃ (i : Nat) (s : Int), i ≤ n2 ∧ vi = .int .i64 (i : Int) ∧ vs = .int .i64 s ∧ Hid (s = restA (ps.take i)) ∧ Below w7.heap.size w7 wr) (fun _ vi _ => n2 - (intOf vi).toNat)
      case atStart => exact ⟨0, 0, by omega, rfl, rfl, Lib.hid rfl, Below.refl _ _⟩
      case round =>
        obtain ⟨i, s, hi, rfl, rfl, HS, hb⟩ := hrel
        have hsb := restA_bd (ls := ps) (k := i) (fun j hj => HPK.out.1 j (by rw [HNL.out]; omega)) (by rw [HNL.out]; omega)
        rw [← HS.out] at hsb
        have hn8 : n2 ≤ 8 := by have := HPK.out.2.2.2.2; rw [HNL.out] at this; exact this
        have hzb2 := hb.size
        by_cases hlt2 : i < n2
        · obtain ⟨x0, x1, x2, hx⟩ : ∃ x0 x1 x2, lnAt ps i = ⟨x0, x1, x2⟩ := ⟨_, _, _, rfl⟩
          have hxb := ln_acc HPK.out.1 (by rw [HNL.out]; omega) hx
          have HX := Lib.hid hx
          obtain ⟨gb, off, rfl, hbB, hcell⟩ := ((Own.rd r hle).below hb (Nat.le_refl _)).form (by omega)
          obtain ⟨g0, g1, g2⟩ := lnCells_at (k := i) hx (by rw [HNL.out]; omega)
          have c0 := hcell _ _ g0
          have c1 := hcell _ _ g1
          have c2 := hcell _ _ g2
          rw [← Nat.add_assoc] at c1 c2
          have i0 : (0 : Int) ≤ (i : Int) := by omega
          have i1 : (i : Int) < (n2 : Int) := by omega
          have HS2 := Lib.hid (restA_take (ls := ps) (k := i) (by rw [HNL.out]; omega))
          clear hcell g0 g1 g2 hx
          by_cases hk : x0 = 2 ∨ x0 = 3 ∨ x0 = 4 ∨ x0 = 5
          · have HO := Lib.hid (ownA_rest (x1 := x1) (x2 := x2) hk)
            have HS3 : Hid (s + x2 = restA (ps.take (i + 1))) := Lib.hid (by rw [HS2.out, HX.out, HO.out, HS.out]; rfl)
            rcases hk with rfl | rfl | rfl | rfl
            all_goals (go_wp2_with fail; go_roundw)
            all_goals (first | (case rel => exact ⟨i + 1, s + x2, by omega, by go_num, rfl, HS3, hb.alloc (by omega) _⟩) | (case measure => simp [intOf]; omega) | skip)
            all_goals (first | (case rel => exact ⟨i + 1, s + x2, by omega, by go_num, rfl, HS3, hb.alloc (by omega) _⟩) | (case measure => simp [intOf]; omega) | skip)
          · have HO := Lib.hid (ownA_own (x1 := x1) (x2 := x2) hxb.1 hk)
            have HS3 : Hid (s = restA (ps.take (i + 1))) := Lib.hid (by rw [HS2.out, HX.out, HO.out, HS.out]; simp)
            have k2 : (x0 == 2) = false := by simp; omega
            have k3 : (x0 == 3) = false := by simp; omega
            have k4 : (x0 == 4) = false := by simp; omega
            have k5 : (x0 == 5) = false := by simp; omega
            go_wp2_with fail
            go_roundw
            case rel => exact ⟨i + 1, s, by omega, by go_num, rfl, HS3, hb.alloc (by omega) _⟩
            case measure => simp [intOf]; omega
        · obtain rfl : i = n2 := by omega
          have hbW : Below W.heap.size W wr := b7.trans (hb.mono b7.size)
          replace o := Own.keep o (Eff.of hb) (.inr (.inr (Nat.le_refl _)))
          replace t := Own.keep t (Eff.of hb) (.inr (.inr (Nat.le_refl _)))
          replace l_0 := (Eff.of hb).cell l_0 (.inr (Nat.zero_le _))
          replace l_1 := (Eff.of hb).cell l_1 (.inr (Nat.zero_le _))
          replace m_0 := (Eff.of hb).cell m_0 (.inr (Nat.zero_le _))
          replace m_1 := (Eff.of hb).cell m_1 (.inr (Nat.zero_le _))
          have hse : s = restA ps := by rw [HS.out, List.take_of_length_le (by rw [HNL.out]; exact Nat.le_refl _)]
          rw [← hse] at HWW
          clear hse
          have i1 : ¬ (i : Int) < (i : Int) := by omega
          have cw : IntKind.i64.wrap (z - s) = z - s := IntWalk.i64_in _ (by omega)
          have tok1 : True := trivial
          go_wp2_with fail
          have he1 : Eff 0 0 wr wr.drew := (Eff.refl _ _ _).drew
          have hz1 : wr.heap.size ≤ wr.drew.heap.size := he1.size
          have b1 : Below W.heap.size W wr.drew := hbW.trans (he1.below hbW.size (by omega))
          replace o := Own.keep o he1 (by omega)
          replace t := Own.keep t he1 (by omega)
          replace l_0 := he1.cell l_0 (by simp only; omega)
          replace l_1 := he1.cell l_1 (by simp only; omega)
          replace m_0 := he1.cell m_0 (by simp only; omega)
          replace m_1 := he1.cell m_1 (by simp only; omega)
          go_region_held3 (fun w' => w'.cell? ⟨w4.heap.size, 0, none⟩ = some (.int .i64 Q) ∧ w'.cell? ⟨w4.heap.size, 1, none⟩ = some (.slice At N ct) ∧ w'.cell? ⟨w1.heap.size, 0, none⟩ = some (.int .i64 q) ∧ w'.cell? ⟨w1.heap.size, 1, none⟩ = some (.slice A1 m c1)) ((go_split_ands; (repeat' apply And.intro) <;> (first | assumption))) (first | (have _t := tok1; go_at_call 31; refine (impl_Worth Q _ N _ R wr.drew (Own.rd t (Own.le t)) (by omega)).mono ?_; rintro e z2 ⟨rfl, hb⟩; rw [HWW.out]; clear tok1 _t; have he2 : Eff 0 0 wr.drew z2 := Eff.of hb; have hz2 : wr.drew.heap.size ≤ z2.heap.size := he2.size; have b2 : Below W.heap.size W z2 := b1.trans (he2.below b1.size (by omega)); replace o := Own.keep o he2 (by omega); replace t := Own.keep t he2 (by omega); replace l_0 := he2.cell l_0 (by simp only; omega); replace l_1 := he2.cell l_1 (by simp only; omega); replace m_0 := he2.cell m_0 (by simp only; omega); replace m_1 := he2.cell m_1 (by simp only; omega); clear hb) | (go_at_call 31; refine (impl_Worth q _ m _ ls z2 (Own.rd o (Own.le o)) (by omega)).mono ?_; rintro e z3 ⟨rfl, hb⟩; rw [HZ.out]; have he3 : Eff 0 0 z2 z3 := Eff.of hb; have hz3 : z2.heap.size ≤ z3.heap.size := he3.size; have b3 : Below W.heap.size W z3 := b2.trans (he3.below b2.size (by omega)); replace o := Own.keep o he3 (by omega); replace t := Own.keep t he3 (by omega); replace l_0 := he3.cell l_0 (by simp only; omega); replace l_1 := he3.cell l_1 (by simp only; omega); replace m_0 := he3.cell m_0 (by simp only; omega); replace m_1 := he3.cell m_1 (by simp only; omega); clear hb))
          go_wp2_with fail
          go_ret
          exact ⟨rfl, b3⟩
    · skip
      obtain ⟨h1, h2⟩ := postR_not (q := q) (p := p) (ls := ls) (ps := ps) (by rw [HC.out]; exact hcd)
      have hww : wor Q R = 0 := by rw [← HQ.out, ← HR.out, h1, h2]; exact wor_none
      have HWW := Lib.hid hww
      have hcz : (Cd != 0) = true := by simp; exact hcd
      clear h1 h2 hww hcd
      have l_0P := (Eff.alloc w6 (.cells #[.int .i64 Q, .slice Au N cu] 34)).cell l_0 (by simp only; omega)
      have l_1P := (Eff.alloc w6 (.cells #[.int .i64 Q, .slice Au N cu] 34)).cell l_1 (by simp only; omega)
      have p_0P := (Eff.alloc w6 (.cells #[.int .i64 Q, .slice Au N cu] 34)).cell p_0 (by simp only; omega)
      have p_1P := (Eff.alloc w6 (.cells #[.int .i64 Q, .slice Au N cu] 34)).cell p_1 (by simp only; omega)
      have m_0P := (Eff.alloc w6 (.cells #[.int .i64 Q, .slice Au N cu] 34)).cell m_0 (by simp only; omega)
      have m_1P := (Eff.alloc w6 (.cells #[.int .i64 Q, .slice Au N cu] 34)).cell m_1 (by simp only; omega)
      go_wp2_with fail
      have he7 : Eff 0 0 w6 (w6.alloc (.cells #[.int .i64 Q, .slice Au N cu] 34)) := Eff.alloc _ _
      have hs7 : (w6.alloc (.cells #[.int .i64 Q, .slice Au N cu] 34)).heap.size = w6.heap.size + 1 := (by simp)
      have ws_0 : (w6.alloc (.cells #[.int .i64 Q, .slice Au N cu] 34)).cell? ⟨w6.heap.size, 0, none⟩ = some (.int .i64 Q) := var_cell _ _ _ _ _ rfl
      have ws_1 : (w6.alloc (.cells #[.int .i64 Q, .slice Au N cu] 34)).cell? ⟨w6.heap.size, 1, none⟩ = some (.slice Au N cu) := var_cell _ _ _ _ _ rfl
      generalize (w6.alloc (.cells #[.int .i64 Q, .slice Au N cu] 34)) = w7 at *
      have hz7 : w6.heap.size ≤ w7.heap.size := he7.size
      have b7 : Below W.heap.size W w7 := b6.trans (he7.below b6.size (by omega))
      replace o := Own.keep o he7 (by omega)
      replace r := Own.keep r he7 (by omega)
      replace t := Own.keep t he7 (by omega)
      replace u := Own.keep u he7 (by omega)
      replace l_0 := he7.cell l_0 (by simp only; omega)
      replace l_1 := he7.cell l_1 (by simp only; omega)
      replace p_0 := he7.cell p_0 (by simp only; omega)
      replace p_1 := he7.cell p_1 (by simp only; omega)
      replace m_0 := he7.cell m_0 (by simp only; omega)
      replace m_1 := he7.cell m_1 (by simp only; omega)
      replace l_l := Nat.lt_of_lt_of_le l_l hz7
      replace p_l := Nat.lt_of_lt_of_le p_l hz7
      replace m_l := Nat.lt_of_lt_of_le m_l hz7
      have ws_l : w6.heap.size < w7.heap.size := (by omega)
      clear l_0P l_1P p_0P p_1P m_0P m_1P
      clear hs7
      refine (impl_Worth Q _ N _ R w7 (Own.rd t (Own.le t)) (by omega)).mono ?_
      rintro e w8 ⟨rfl, hb⟩
      rw [HWW.out]
      have he8 : Eff 0 0 w7 w8 := Eff.of hb
      have hz8 : w7.heap.size ≤ w8.heap.size := he8.size
      have b8 : Below W.heap.size W w8 := b7.trans (he8.below b7.size (by omega))
      replace o := Own.keep o he8 (by omega)
      replace r := Own.keep r he8 (by omega)
      replace t := Own.keep t he8 (by omega)
      replace u := Own.keep u he8 (by omega)
      replace l_0 := he8.cell l_0 (by simp only; omega)
      replace l_1 := he8.cell l_1 (by simp only; omega)
      replace p_0 := he8.cell p_0 (by simp only; omega)
      replace p_1 := he8.cell p_1 (by simp only; omega)
      replace m_0 := he8.cell m_0 (by simp only; omega)
      replace m_1 := he8.cell m_1 (by simp only; omega)
      replace ws_0 := he8.cell ws_0 (by simp only; omega)
      replace ws_1 := he8.cell ws_1 (by simp only; omega)
      replace l_l := Nat.lt_of_lt_of_le l_l hz8
      replace p_l := Nat.lt_of_lt_of_le p_l hz8
      replace m_l := Nat.lt_of_lt_of_le m_l hz8
      replace ws_l := Nat.lt_of_lt_of_le ws_l hz8
      clear hb
      go_wp2_with fail
      go_ret
      exact ⟨rfl, b8⟩
end Go.Proofs.Ytgjphejmppehjaa
