/- MulDiv, Fee, FeeUp: program and reference are one Lean function; the walks of the laws that say so. -/
import Derived.Test.YtoeegfcbicjhgaaMd2
namespace Go.Proofs.Ytoeegfcbicjhgaa
open Go.RowKit

theorem ret_ib {a a' : Int} {x y : Bool} (h1 : a = a') (h3 : x = y) : Ending.returned (.tuple #[.int .i64 a, .bool x]) = .returned (.tuple #[.int .i64 a', .bool y]) := by rw [h1, h3]

theorem mulDiv_no {a b c : Int} (h : (inB a 0 1125899906842624 && inB b 0 1125899906842624 && inB c 1 1125899906842624) = false) : mulDiv a b c = (0, false) := by simp only [mulDiv, h]; rfl
theorem mulDiv_yes {a b c : Nat} (ha : a ≤ 1125899906842624) (hb : b ≤ 1125899906842624) (hc : 1 ≤ c) (hc' : c ≤ 1125899906842624) : mulDiv a b c = (((mdR a b c).1 : Int), (mdR a b c).2.2) := by
  have ia : inB a 0 1125899906842624 = true := inB_true (by omega) (by omega)
  have ib : inB b 0 1125899906842624 = true := inB_true (by omega) (by omega)
  have ic : inB c 1 1125899906842624 = true := inB_true (by omega) (by omega)
  simp only [mulDiv, ia, ib, ic, Int.toNat_natCast]; rfl
theorem ok_nats {a b c : Int} (h : (inB a 0 1125899906842624 && inB b 0 1125899906842624 && inB c 1 1125899906842624) = true) :
    ∃ x y z : Nat, a = x ∧ b = y ∧ c = z ∧ x ≤ 1125899906842624 ∧ y ≤ 1125899906842624 ∧ 1 ≤ z ∧ z ≤ 1125899906842624 := by
  simp only [Bool.and_eq_true] at h
  have := inB_le h.1.1
  have := inB_le h.1.2
  have := inB_le h.2
  exact ⟨a.toNat, b.toNat, c.toNat, by omega, by omega, by omega, by omega, by omega, by omega, by omega⟩

theorem impl_MulDiv (a b c : Int) (w : World) :
    Calls Try.prog 29 #[.int .i64 a, .int .i64 b, .int .i64 c] w fun e w' => e = .returned (.tuple #[.int .i64 (mulDiv a b c).1, .bool (mulDiv a b c).2]) ∧ Below w.heap.size w w' := by
  rcases h : (inB a 0 1125899906842624 && inB b 0 1125899906842624 && inB c 1 1125899906842624) with _ | _
  · rw [mulDiv_no h]
    have H := Lib.hid h
    clear h
    go_enter Try.func29, Try.ntmps29
    go_wp2_with (go_at_call 39; refine (divided_no _ _ _ _ H.out).mono ?_; rintro e w1 ⟨rfl, hb1⟩)
    go_ret2
    exact ⟨rfl, by assumption⟩
  · obtain ⟨x, y, z, rfl, rfl, rfl, hx, hy, hz, hz'⟩ := ok_nats h
    rw [mulDiv_yes hx hy hz hz']
    clear h
    go_enter Try.func29, Try.ntmps29
    go_wp2_with (go_at_call 39; refine (divided_yes _ _ _ hx hy hz hz' _).mono ?_; rintro e w1 ⟨rfl, hb1⟩)
    go_ret2
    exact ⟨rfl, by assumption⟩

theorem spec_MulDiv (a b c : Int) (w : World) :
    Calls Try.prog 28 #[.int .i64 a, .int .i64 b, .int .i64 c] w fun e w' => e = .returned (.tuple #[.int .i64 (mulDiv a b c).1, .bool (mulDiv a b c).2]) ∧ w = w' := by
  rcases ha : inB a 0 1125899906842624 with _ | _
  · rw [mulDiv_no (by simp [ha])]
    go_enter Try.func28, Try.ntmps28
    go_wp2_with (go_at_call 15; refine (spec_AmtOk _ _).mono ?_; rintro e w1 ⟨rfl, rfl⟩)
    go_ret2
    exact ⟨rfl, rfl⟩
  · rcases hb : inB b 0 1125899906842624 with _ | _
    · rw [mulDiv_no (by simp [hb])]
      go_enter Try.func28, Try.ntmps28
      go_wp2_with (go_at_call 15; refine (spec_AmtOk _ _).mono ?_; rintro e w1 ⟨rfl, rfl⟩)
      go_ret2
      exact ⟨rfl, rfl⟩
    · by_cases h1 : c < 1
      · rw [mulDiv_no (by simp [inB_false (n := c) (lo := 1) (hi := 1125899906842624) (.inl h1)])]
        go_enter Try.func28, Try.ntmps28
        go_wp2_with (go_at_call 15; refine (spec_AmtOk _ _).mono ?_; rintro e w1 ⟨rfl, rfl⟩)
        go_ret2
        exact ⟨rfl, rfl⟩
      · have h1' : 1 ≤ c := by omega
        clear h1
        by_cases h2 : 1125899906842624 < c
        · rw [mulDiv_no (by simp [inB_false (n := c) (lo := 1) (hi := 1125899906842624) (.inr h2)])]
          go_enter Try.func28, Try.ntmps28
          go_wp2_with (go_at_call 15; refine (spec_AmtOk _ _).mono ?_; rintro e w1 ⟨rfl, rfl⟩)
          go_ret2
          exact ⟨rfl, rfl⟩
        · have h2' : c ≤ 1125899906842624 := by omega
          clear h2
          obtain ⟨x, y, z, rfl, rfl, rfl, hx, hy, hz, hz'⟩ := ok_nats (a := a) (b := b) (c := c) (by simp [ha, hb, inB_true h1' h2'])
          rw [mulDiv_yes hx hy hz hz']
          go_enter Try.func28, Try.ntmps28
          go_wp2_with (first | (go_at_call 15; refine (spec_AmtOk _ _).mono ?_; rintro e w1 ⟨rfl, rfl⟩) | (go_at_call 38; refine (spec_l01Div _ _ _ hx hy hz hz' _).mono ?_; rintro e w1 ⟨rfl, rfl⟩))
          go_ret2
          exact ⟨rfl, rfl⟩

theorem walk_FnExactMulDiv (a : Int) (_wa : (Lit.int .i64 a).wf = true) (b : Int) (_wb : (Lit.int .i64 b).wf = true) (c : Int) (_wc : (Lit.int .i64 c).wf = true) (W : World) :
    Calls Try.prog 10 #[.int .i64 a, .int .i64 b, .int .i64 c] W fun e w' => e = .returned (.bool true) ∧ Below W.heap.size W w' := by
  go_enter Try.func10, Try.ntmps10
  go_wp2_with (first | (go_at_call 28; refine (spec_MulDiv _ _ _ _).mono ?_; rintro e w1 ⟨rfl, rfl⟩) | (go_at_call 29; refine (impl_MulDiv _ _ _ _).mono ?_; rintro e w1 ⟨rfl, hb1⟩; have hz1 := hb1.size; (try simp at hz1)))
  go_ret
  refine ⟨rfl, ?_⟩
  repeat' (first | exact Below.refl _ _ | (refine Below.alloc ?_ ?_ _) | (refine Below.drew ?_) | (refine Below.setCell ?_ ?_ _) | (refine Below.trans ?_ (Below.mono (by assumption) ?_)) | omega | (simp; omega) | (simp; done))

/-- A fee. -/
def feeQ (ppm n : Int) (up : Bool) : Int := n * ppm / 1000000 + if up && decide (0 < n * ppm % 1000000) then 1 else 0
def feeM (base ppm n : Int) (up : Bool) : Int × Bool :=
  if inB n 0 1125899906842624 && inB ppm 0 1000000 then addAmt base (feeQ ppm n up) else (0, false)

theorem feeM_n {base ppm n : Int} {up : Bool} (h : inB n 0 1125899906842624 = false) : feeM base ppm n up = (0, false) := by simp [feeM, h]
theorem feeM_ppm {base ppm n : Int} {up : Bool} (h : inB ppm 0 1000000 = false) : feeM base ppm n up = (0, false) := by simp [feeM, h]
theorem feeM_base {base ppm n : Int} {up : Bool} (h : inB base 0 1125899906842624 = false) : feeM base ppm n up = (0, false) := by simp [feeM, addAmt, h]

theorem fee_nums (n p : Nat) (hn : n ≤ 1125899906842624) (hp : p ≤ 1000000) : mdR n p 1000000 = (n * p / 1000000, n * p % 1000000, true) ∧ n * p / 1000000 ≤ 1125899906842624 ∧
    ((n * p / 1000000 : Nat) : Int) = (n : Int) * (p : Int) / 1000000 ∧ ((n * p % 1000000 : Nat) : Int) = (n : Int) * (p : Int) % 1000000 := by
  have h : n * p ≤ n * 1000000 := Nat.mul_le_mul_left n hp
  refine ⟨?_, by omega, by rw [← Int.natCast_mul]; omega, by rw [← Int.natCast_mul]; omega⟩
  rw [mdR, if_pos (by omega)]

theorem fee_up {q r : Nat} (h : 0 < r) (n p : Nat) (e1 : (q : Int) = (n : Int) * (p : Int) / 1000000) (e2 : (r : Int) = (n : Int) * (p : Int) % 1000000) : feeQ p n true = (q : Int) + 1 := by
  have h' : (0 : Int) < (n : Int) * (p : Int) % 1000000 := by omega
  simp [feeQ, ← e1, h']
theorem fee_same {q r : Nat} {up : Bool} (h : r = 0 ∨ up = false) (n p : Nat) (e1 : (q : Int) = (n : Int) * (p : Int) / 1000000) (e2 : (r : Int) = (n : Int) * (p : Int) % 1000000) : feeQ p n up = (q : Int) := by
  rcases h with h | h
  · have h' : ¬ (0 : Int) < (n : Int) * (p : Int) % 1000000 := by omega
    simp [feeQ, ← e1, h']
  · simp [feeQ, ← e1, h]

theorem impl_fee (base ppm n : Int) (up : Bool) (w : World) :
    Calls Try.prog 41 #[.int .i64 base, .int .i64 ppm, .int .i64 n, .bool up] w fun e w' => e = .returned (.tuple #[.int .i64 (feeM base ppm n up).1, .bool (feeM base ppm n up).2]) ∧ Below w.heap.size w w' := by
  rcases h : (inB n 0 1125899906842624 && inB ppm 0 1125899906842624 && inB 1000000 1 1125899906842624) with _ | _
  · have hr : feeM base ppm n up = (0, false) := by
      rcases hn : inB n 0 1125899906842624 with _ | _
      · exact feeM_n hn
      · have hp : inB ppm 0 1125899906842624 = false := by simpa [hn, show inB 1000000 1 1125899906842624 = true from inB_true (by omega) (by omega)] using h
        have := inB_gt hp
        exact feeM_ppm (inB_false (by omega))
    rw [hr]
    clear hr
    have H := Lib.hid h
    clear h
    go_enter Try.func41, Try.ntmps41
    go_wp2_with (go_at_call 39; refine (divided_no _ _ _ _ H.out).mono ?_; rintro e w1 ⟨rfl, hb1⟩)
    go_ret2
    exact ⟨rfl, by assumption⟩
  · simp only [Bool.and_eq_true] at h
    have hn := inB_le h.1.1
    have hp := inB_le h.1.2
    clear h
    obtain ⟨x, rfl⟩ : ∃ x : Nat, n = x := ⟨n.toNat, by omega⟩
    obtain ⟨p, rfl⟩ : ∃ p : Nat, ppm = p := ⟨ppm.toNat, by omega⟩
    have hx : x ≤ 1125899906842624 := by omega
    have hp' : p ≤ 1125899906842624 := by omega
    clear hn hp
    by_cases hm : 1000000 < p
    · rw [feeM_ppm (inB_false (by omega))]
      go_enter Try.func41, Try.ntmps41
      go_wp2_with (go_at_call 39; refine (divided_yes _ _ 1000000 hx hp' (by omega) (by omega) _).mono ?_; rintro e w1 ⟨rfl, hb1⟩)
      all_goals
        go_ret2
        exact ⟨rfl, by assumption⟩
    · have hm' : p ≤ 1000000 := by omega
      clear hm
      obtain ⟨e0, e1, e2, e3⟩ := fee_nums x p hx hm'
      obtain ⟨F, hF⟩ : ∃ F, feeM base p x up = F := ⟨_, rfl⟩
      rw [hF]
      have hF' : addAmt base (feeQ p x up) = F := by
        rw [← hF, feeM, inB_true (n := (x : Int)) (by omega) (by omega), inB_true (n := (p : Int)) (by omega) (by omega)]; rfl
      clear hF
      obtain ⟨q, hq⟩ : ∃ q, x * p / 1000000 = q := ⟨_, rfl⟩
      obtain ⟨r, hr⟩ : ∃ r, x * p % 1000000 = r := ⟨_, rfl⟩
      rw [hq, hr] at e0
      rw [hq] at e1 e2
      rw [hr] at e3
      have hr1 : r < 1000000 := by omega
      clear hq hr
      by_cases hup : up = true ∧ 0 < r
      · obtain ⟨rfl, hr0⟩ := hup
        rw [fee_up hr0 x p e2 e3] at hF'
        have HF := Lib.hid hF'
        have E0 := Lib.hid e0
        clear hF' e0 e2 e3
        go_enter Try.func41, Try.ntmps41
        go_wp2_with (first | (go_at_call 39; refine (divided_yes _ _ 1000000 hx hp' (by omega) (by omega) _).mono ?_; rintro e w1 ⟨rfl, hb1⟩; rw [E0.out]) | (go_at_call 22; refine (impl_AddAmt _ _ _).mono ?_; rintro e w2 ⟨rfl, rfl⟩; rw [HF.out]))
        go_ret2
        exact ⟨rfl, by assumption⟩
      · have hup' : r = 0 ∨ up = false := by
          rcases hu : up with _ | _
          · exact .inr rfl
          · refine .inl ?_
            have : ¬ 0 < r := fun h => hup ⟨hu, h⟩
            omega
        rw [fee_same hup' x p e2 e3] at hF'
        have HF := Lib.hid hF'
        have E0 := Lib.hid e0
        clear hF' e0 e2 e3 hup
        rcases hup' with rfl | rfl
        all_goals
          go_enter Try.func41, Try.ntmps41
          go_wp2_with (first | (go_at_call 39; refine (divided_yes _ _ 1000000 hx hp' (by omega) (by omega) _).mono ?_; rintro e w1 ⟨rfl, hb1⟩; rw [E0.out]) | (go_at_call 22; refine (impl_AddAmt _ _ _).mono ?_; rintro e w2 ⟨rfl, rfl⟩; rw [HF.out]))
          all_goals
            go_ret2
            exact ⟨rfl, by assumption⟩

theorem spec_l01Fee (base ppm n : Int) (up : Bool) (w : World) :
    Calls Try.prog 40 #[.int .i64 base, .int .i64 ppm, .int .i64 n, .bool up] w fun e w' => e = .returned (.tuple #[.int .i64 (feeM base ppm n up).1, .bool (feeM base ppm n up).2]) ∧ w = w' := by
  rcases hb : inB base 0 1125899906842624 with _ | _
  · rw [feeM_base hb]
    go_enter Try.func40, Try.ntmps40
    go_wp2_with (go_at_call 15; refine (spec_AmtOk _ _).mono ?_; rintro e w1 ⟨rfl, rfl⟩)
    go_ret2
    exact ⟨rfl, rfl⟩
  · rcases hn : inB n 0 1125899906842624 with _ | _
    · rw [feeM_n hn]
      go_enter Try.func40, Try.ntmps40
      go_wp2_with (go_at_call 15; refine (spec_AmtOk _ _).mono ?_; rintro e w1 ⟨rfl, rfl⟩)
      go_ret2
      exact ⟨rfl, rfl⟩
    · by_cases h1 : ppm < 0
      · rw [feeM_ppm (inB_false (.inl h1))]
        go_enter Try.func40, Try.ntmps40
        go_wp2_with (go_at_call 15; refine (spec_AmtOk _ _).mono ?_; rintro e w1 ⟨rfl, rfl⟩)
        go_ret2
        exact ⟨rfl, rfl⟩
      · have h1' : 0 ≤ ppm := by omega
        clear h1
        by_cases h2 : 1000000 < ppm
        · rw [feeM_ppm (inB_false (.inr h2))]
          go_enter Try.func40, Try.ntmps40
          go_wp2_with (go_at_call 15; refine (spec_AmtOk _ _).mono ?_; rintro e w1 ⟨rfl, rfl⟩)
          go_ret2
          exact ⟨rfl, rfl⟩
        · have h2' : ppm ≤ 1000000 := by omega
          clear h2
          have hn' := inB_le hn
          obtain ⟨x, rfl⟩ : ∃ x : Nat, n = x := ⟨n.toNat, by omega⟩
          obtain ⟨p, rfl⟩ : ∃ p : Nat, ppm = p := ⟨ppm.toNat, by omega⟩
          have hx : x ≤ 1125899906842624 := by omega
          have hm' : p ≤ 1000000 := by omega
          clear hn'
          obtain ⟨e0, e1, e2, e3⟩ := fee_nums x p hx hm'
          obtain ⟨F, hF⟩ : ∃ F, feeM base p x up = F := ⟨_, rfl⟩
          rw [hF]
          have hF' : addAmt base (feeQ p x up) = F := by
            rw [← hF, feeM, inB_true (n := (x : Int)) (by omega) (by omega), inB_true (n := (p : Int)) (by omega) (by omega)]; rfl
          clear hF
          obtain ⟨q, hq⟩ : ∃ q, x * p / 1000000 = q := ⟨_, rfl⟩
          obtain ⟨r, hr⟩ : ∃ r, x * p % 1000000 = r := ⟨_, rfl⟩
          rw [hq, hr] at e0
          rw [hq] at e1 e2
          rw [hr] at e3
          have hr1 : r < 1000000 := by omega
          clear hq hr
          by_cases hup : up = true ∧ 0 < r
          · obtain ⟨rfl, hr0⟩ := hup
            rw [fee_up hr0 x p e2 e3] at hF'
            have HF := Lib.hid hF'
            have E0 := Lib.hid e0
            clear hF' e0 e2 e3
            go_enter Try.func40, Try.ntmps40
            go_wp2_with (first | (go_at_call 15; refine (spec_AmtOk _ _).mono ?_; rintro e w1 ⟨rfl, rfl⟩) | (go_at_call 38; refine (spec_l01Div _ _ 1000000 hx (by omega) (by omega) (by omega) _).mono ?_; rintro e w1 ⟨rfl, rfl⟩; rw [E0.out]) | (go_at_call 21; refine (spec_AddAmt _ _ _).mono ?_; rintro e w2 ⟨rfl, rfl⟩; rw [HF.out]))
            go_ret2
            exact ⟨rfl, rfl⟩
          · have hup' : r = 0 ∨ up = false := by
              rcases hu : up with _ | _
              · exact .inr rfl
              · refine .inl ?_
                have : ¬ 0 < r := fun h => hup ⟨hu, h⟩
                omega
            rw [fee_same hup' x p e2 e3] at hF'
            have HF := Lib.hid hF'
            have E0 := Lib.hid e0
            clear hF' e0 e2 e3 hup
            rcases hup' with rfl | rfl
            all_goals
              go_enter Try.func40, Try.ntmps40
              go_wp2_with (first | (go_at_call 15; refine (spec_AmtOk _ _).mono ?_; rintro e w1 ⟨rfl, rfl⟩) | (go_at_call 38; refine (spec_l01Div _ _ 1000000 hx (by omega) (by omega) (by omega) _).mono ?_; rintro e w1 ⟨rfl, rfl⟩; rw [E0.out]) | (go_at_call 21; refine (spec_AddAmt _ _ _).mono ?_; rintro e w2 ⟨rfl, rfl⟩; rw [HF.out]))
              all_goals
                go_ret2
                exact ⟨rfl, rfl⟩
end Go.Proofs.Ytoeegfcbicjhgaa
