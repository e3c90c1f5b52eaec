/- The draws DrawMulDiv, DrawFee, and the walks of the laws FnMulDiv and FnFee: whatever is drawn, they hold. -/
import Derived.Test.YtoeegfcbicjhgaaCur2
import Derived.Test.YtoeegfcbicjhgaaMd4
import Derived.Test.YtoeegfcbicjhgaaAcc
namespace Go.Proofs.Ytoeegfcbicjhgaa
open Go.RowKit

/-- Three integers of 64 bits; nothing that was there has changed. -/
def Draw3 (w : World) (e : Ending) (w' : World) : Prop :=
  ∃ x y z : Int, e = .returned (.tuple #[.int .i64 x, .int .i64 y, .int .i64 z]) ∧ in64 x ∧ in64 y ∧ in64 z ∧ Below w.heap.size w w'

theorem in64_of {x lo hi : Int} (h1 : lo ≤ x) (h2 : x < hi) (hl : -9223372036854775808 ≤ lo) (hh : hi ≤ 9223372036854775807) : in64 x := ⟨by omega, by omega⟩

set_option maxHeartbeats 1000000 in
set_option maxRecDepth 100000 in
theorem DrawMulDiv_any (w : World) (A : Option Addr) (n c : Nat) (l : List UInt8) (hr : Rd w w.heap.size 1 A n (Lib.byteCells l)) (hn : n ≤ 1048576) :
    Calls Try.prog 34 #[.slice A n c] w (Draw3 w) := by
  go_enter Try.func34, Try.ntmps34
  go_wp2_with (first | (go_at_call 42; refine (l01New_any _ _ _ _ _ hr hn).mono ?_; rintro e w1 ⟨g, hgs, rfl, hc1, hb1⟩; have hgw := Nat.le_of_eq hgs.symm; clear hgs) | (go_at_call 43; refine (l01Two_any _ _ _ (by assumption)).mono ?_; rintro e w1 ⟨x, y, rfl, hx, hy, hc1, hg1⟩) | (go_at_call 45; refine (l01Below_any _ _ _ (by omega) _ (by assumption)).mono ?_; rintro e w1 ⟨x, rfl, ⟨hx0, hx1, hx2⟩, hc1, hg1⟩; have hx3 := hx1 (by omega); clear hx1 hx2) | (go_at_call 44; refine (l01Amt_any _ _ _ (by assumption)).mono ?_; rintro e w1 ⟨x, rfl, ⟨hx0, hx1⟩, hc1, hg1⟩) | (go_at_call 46; refine (l01Raw_any _ _ _ (by assumption)).mono ?_; rintro e w1 ⟨x, rfl, ⟨hx0, hx1⟩, hc1, hg1⟩))
  all_goals
    go_ret3
  all_goals
    refine ⟨_, _, _, rfl, by assumption, by assumption, ?_, Below.grown (by assumption) (?_ : World.grownBy _ _ (some g)) (Below.size (by assumption)) (fun k hk => by cases hk; assumption)⟩
    · first | exact ⟨by assumption, by assumption⟩ | (unfold in64; omega)
    · repeat' (first | exact World.grownBy.refl _ _ | assumption | (refine grownBy_trans ?_ (by assumption)))

set_option maxHeartbeats 1000000 in
set_option maxRecDepth 100000 in
theorem DrawFee_any (w : World) (A : Option Addr) (n c : Nat) (l : List UInt8) (hr : Rd w w.heap.size 1 A n (Lib.byteCells l)) (hn : n ≤ 1048576) :
    Calls Try.prog 35 #[.slice A n c] w (Draw3 w) := by
  go_enter Try.func35, Try.ntmps35
  go_wp2_with (first | (go_at_call 42; refine (l01New_any _ _ _ _ _ hr hn).mono ?_; rintro e w1 ⟨g, hgs, rfl, hc1, hb1⟩; have hgw := Nat.le_of_eq hgs.symm; clear hgs) | (go_at_call 43; refine (l01Two_any _ _ _ (by assumption)).mono ?_; rintro e w1 ⟨x, y, rfl, hx, hy, hc1, hg1⟩) | (go_at_call 45; refine (l01Below_any _ _ _ (by omega) _ (by assumption)).mono ?_; rintro e w1 ⟨x, rfl, ⟨hx0, hx1, hx2⟩, hc1, hg1⟩; have hx3 := hx1 (by omega); clear hx1 hx2) | (go_at_call 46; refine (l01Raw_any _ _ _ (by assumption)).mono ?_; rintro e w1 ⟨x, rfl, ⟨hx0, hx1⟩, hc1, hg1⟩))
  all_goals
    go_ret3
  all_goals
    refine ⟨_, _, _, rfl, by assumption, ?_, by assumption, Below.grown (by assumption) (?_ : World.grownBy _ _ (some g)) (Below.size (by assumption)) (fun k hk => by cases hk; assumption)⟩
    · first | exact ⟨by assumption, by assumption⟩ | (unfold in64; omega)
    · repeat' (first | exact World.grownBy.refl _ _ | assumption | (refine grownBy_trans ?_ (by assumption)))

/-! ### the plain laws -/
theorem mulDiv_false {a b c : Int} {q : Int} (h : mulDiv a b c = (q, false)) : q = 0 := by
  unfold mulDiv at h
  split at h
  · unfold mdR at h
    split at h
    · simp at h
    · simp at h; omega
  · simp at h; omega

theorem mulDiv_true {a b c : Int} {q : Int} (h : mulDiv a b c = (q, true)) :
    ∃ x y z : Nat, a = x ∧ b = y ∧ c = z ∧ x ≤ 1125899906842624 ∧ y ≤ 1125899906842624 ∧ 1 ≤ z ∧ z ≤ 1125899906842624 ∧ q = ((x * y / z : Nat) : Int) ∧ x * y / z ≤ 1125899906842624 := by
  rcases hb : (inB a 0 1125899906842624 && inB b 0 1125899906842624 && inB c 1 1125899906842624) with _ | _
  · rw [mulDiv_no hb] at h; simp at h
  · obtain ⟨x, y, z, rfl, rfl, rfl, hx, hy, hz, hz'⟩ := ok_nats hb
    rw [mulDiv_yes hx hy hz hz', mdR] at h
    split at h
    · simp only [Prod.mk.injEq] at h
      exact ⟨x, y, z, rfl, rfl, rfl, hx, hy, hz, hz', h.1.symm, by assumption⟩
    · simp at h

theorem mulDiv_comm (a b c : Int) : mulDiv a b c = mulDiv b a c := by
  unfold mulDiv mdR
  rw [Nat.mul_comm b.toNat a.toNat, Bool.and_comm (inB a _ _)]

theorem mulDiv_small {x y z : Nat} (hz : 1 ≤ z) (hx : x < 1073741824) (hy : y < 1073741824) :
    ((x * y / z : Nat) : Int) * (z : Int) ≤ (x : Int) * (y : Int) ∧ (x : Int) * (y : Int) - ((x * y / z : Nat) : Int) * (z : Int) < (z : Int) ∧ 0 ≤ ((x * y / z : Nat) : Int) * (z : Int) ∧ (x : Int) * (y : Int) ≤ 1152921504606846976 := by
  have h1 := Nat.div_add_mod (x * y) z
  have h2 : x * y % z < z := Nat.mod_lt _ hz
  have h3 : x * y ≤ 1073741823 * 1073741823 := Nat.mul_le_mul (by omega) (by omega)
  rw [Nat.mul_comm] at h1
  rw [← Int.natCast_mul, ← Int.natCast_mul]
  generalize x * y / z * z = u at *
  generalize x * y = v at *
  omega

theorem mulDiv_ints {a b d q : Int} (h : mulDiv a b d = (q, true)) : 0 ≤ a ∧ 0 ≤ b ∧ 1 ≤ d ∧ 0 ≤ q ∧ q ≤ 1125899906842624 ∧
    (a < 1073741824 → b < 1073741824 → q * d ≤ a * b ∧ a * b - q * d < d ∧ 0 ≤ q * d ∧ 0 ≤ a * b ∧ a * b ≤ 1152921504606846976) := by
  obtain ⟨x, y, z, rfl, rfl, rfl, hx, hy, hz, hz', rfl, hqb⟩ := mulDiv_true h
  refine ⟨by omega, by omega, by omega, Int.natCast_nonneg _, by generalize x * y / z = u at *; omega, fun h1 h2 => ?_⟩
  obtain ⟨m1, m2, m3, m4⟩ := mulDiv_small hz (show x < 1073741824 by omega) (show y < 1073741824 by omega)
  exact ⟨m1, m2, m3, by omega, m4⟩

theorem feeM_form {base ppm n : Int} {up : Bool} {a : Int} (h : feeM base ppm n up = (a, true)) :
    (0 ≤ n ∧ n ≤ 1125899906842624) ∧ (0 ≤ ppm ∧ ppm ≤ 1000000) ∧ (0 ≤ base ∧ base ≤ 1125899906842624) ∧ a = base + feeQ ppm n up ∧ 0 ≤ a ∧ a ≤ 1125899906842624 := by
  unfold feeM addAmt at h
  split at h
  · split at h
    · rename_i h1 h2
      simp only [Bool.and_eq_true] at h1 h2
      simp only [Prod.mk.injEq, and_true] at h
      have e3 := inB_le h2.2
      rw [h] at e3
      exact ⟨inB_le h1.1, inB_le h1.2, inB_le h2.1.1, h.symm, e3⟩
    · simp at h
  · simp at h

theorem feeM_mk {base ppm n : Int} {up : Bool} (h1 : 0 ≤ n ∧ n ≤ 1125899906842624) (h2 : 0 ≤ ppm ∧ ppm ≤ 1000000) (h3 : 0 ≤ base ∧ base ≤ 1125899906842624) (h4 : 0 ≤ base + feeQ ppm n up ∧ base + feeQ ppm n up ≤ 1125899906842624)
    (h5 : 0 ≤ feeQ ppm n up ∧ feeQ ppm n up ≤ 1125899906842624) : feeM base ppm n up = (base + feeQ ppm n up, true) := by
  unfold feeM addAmt
  rw [inB_true h1.1 h1.2, inB_true h2.1 h2.2, inB_true h3.1 h3.2, inB_true h4.1 h4.2, inB_true h5.1 h5.2]
  rfl

theorem feeQ_up (ppm n : Int) : feeQ ppm n true = feeQ ppm n false ∨ feeQ ppm n true = feeQ ppm n false + 1 := by
  unfold feeQ
  by_cases h : 0 < n * ppm % 1000000
  · right; simp [h]
  · left; simp [h]

theorem feeQ_nonneg {ppm n : Int} {up : Bool} (h1 : 0 ≤ n) (h2 : 0 ≤ ppm) : 0 ≤ feeQ ppm n up := by
  unfold feeQ
  have := Int.mul_nonneg h1 h2
  have h : 0 ≤ n * ppm / 1000000 := by omega
  split <;> omega

theorem fee_law1 {base ppm n : Int} {a b : Int} (h : feeM base ppm n false = (a, false)) : feeM base ppm n true ≠ (b, true) := by
  intro hg
  obtain ⟨e1, e2, e3, e4, e5, e6⟩ := feeM_form hg
  have hq := feeQ_nonneg (up := false) e1.1 e2.1
  have hu := feeQ_up ppm n
  have := feeM_mk (up := false) e1 e2 e3 (by omega) (by omega)
  rw [this] at h
  simp at h

theorem fee_law2 {base ppm n : Int} {a b : Int} (h : feeM base ppm n false = (a, true)) (hg : feeM base ppm n true = (b, true)) : b = a ∨ b = a + 1 := by
  obtain ⟨_, _, _, e4, _, _⟩ := feeM_form hg
  obtain ⟨_, _, _, f4, _, _⟩ := feeM_form h
  have hu := feeQ_up ppm n
  omega

theorem fee_law3 {base ppm n : Int} {a b : Int} (h : feeM base ppm n false = (a, true)) (hg : feeM base ppm n true = (b, false)) : a = 1125899906842624 := by
  obtain ⟨e1, e2, e3, e4, e5, e6⟩ := feeM_form h
  have hq := feeQ_nonneg (up := true) e1.1 e2.1
  have hu := feeQ_up ppm n
  by_cases hlt : a < 1125899906842624
  · have := feeM_mk (up := true) e1 e2 e3 (by omega) (by omega)
    rw [this] at hg
    simp at hg
  · omega

theorem fee_law4 {base ppm n m : Int} {a b : Int} (h : feeM base ppm n false = (a, true)) (hg : feeM base ppm m false = (b, true)) (hm : n ≤ m) : a ≤ b := by
  obtain ⟨e1, e2, e3, e4, e5, e6⟩ := feeM_form h
  obtain ⟨f1, f2, f3, f4, f5, f6⟩ := feeM_form hg
  have hp : n * ppm ≤ m * ppm := Int.mul_le_mul_of_nonneg_right hm e2.1
  unfold feeQ at e4 f4
  simp only [Bool.false_and, Bool.false_eq_true, if_false] at e4 f4
  omega

set_option maxHeartbeats 1000000 in
set_option maxRecDepth 100000 in
theorem walk_FnMulDiv (A : Option Addr) (n c : Nat) (l : List UInt8) (W : World) (_hn : n ≤ c) (_hm : c ≤ maxLen) (hr : Rd W W.heap.size 1 A n (Lib.byteCells l)) :
    Calls Try.prog 13 #[.slice A n c] W fun e w' => e = .returned (.bool true) ∧ Below W.heap.size W w' := by
  by_cases hn1 : 1048576 < n
  · go_enter Try.func13, Try.ntmps13
    go_wp2
    go_ret
    exact ⟨rfl, Below.refl _ _⟩
  · have hn : n ≤ 1048576 := by omega
    clear hn1
    go_enter Try.func13, Try.ntmps13
    go_wp2_with fail
    refine (DrawMulDiv_any W A n c l hr hn).mono ?_
    rintro e w1 ⟨a, b, d, rfl, ha, hb, hd, hb1⟩
    obtain ⟨q, ok, hq⟩ : ∃ q ok, mulDiv a b d = (q, ok) := ⟨_, _, rfl⟩
    have HQ := Lib.hid hq
    have hcom : mulDiv b a d = (q, ok) := by rw [mulDiv_comm b a d, hq]
    have HC := Lib.hid hcom
    clear hcom
    rcases ok with _ | _
    · have h0 := mulDiv_false hq
      subst h0
      clear hq
      go_wp2_with (first | (go_at_call 29; refine (impl_MulDiv _ _ _ _).mono ?_; rintro e w2 ⟨rfl, hb2⟩; rw [HQ.out]) | (go_at_call 28; refine (spec_MulDiv _ _ _ _).mono ?_; rintro e w3 ⟨rfl, rfl⟩; rw [HQ.out]))
      go_ret
      refine ⟨rfl, ?_⟩
      exact Below.trans (by assumption) (Below.mono (by assumption) (Below.size (by assumption)))
    · obtain ⟨i1, i2, i3, i4, i5, i6⟩ := mulDiv_ints hq
      clear hq
      by_cases hs : a < 1073741824 ∧ b < 1073741824
      · obtain ⟨hs1, hs2⟩ := hs
        obtain ⟨m1, m2, m3, m4, m5⟩ := i6 hs1 hs2
        clear i6
        go_wp2_with (first | (go_at_call 29; refine (impl_MulDiv _ _ _ _).mono ?_; rintro e w2 ⟨rfl, hb2⟩; rw [HQ.out]) | (go_at_call 28; refine (spec_MulDiv _ _ _ _).mono ?_; rintro e w3 ⟨rfl, rfl⟩; rw [HQ.out]))
        go_ret
        refine ⟨ret_boolA (by simp), ?_⟩
        exact Below.trans (by assumption) (Below.mono (by assumption) (Below.size (by assumption)))
      · have hs' : 1073741824 ≤ a ∨ a < 1073741824 ∧ 1073741824 ≤ b := by omega
        clear hs i6
        rcases hs' with hs' | ⟨hs1, hs'⟩
        all_goals
          have tok1 : True := trivial
          go_wp2_with (first | (go_at_call 29; have _t := tok1; refine (impl_MulDiv a b d _).mono ?_; rintro e w2 ⟨rfl, hb2⟩; rw [HQ.out]; clear _t tok1) | (go_at_call 29; refine (impl_MulDiv b a d _).mono ?_; rintro e w2 ⟨rfl, hb3⟩; rw [HC.out]) | (go_at_call 28; refine (spec_MulDiv _ _ _ _).mono ?_; rintro e w3 ⟨rfl, rfl⟩; rw [HQ.out]))
          go_ret
          refine ⟨rfl, ?_⟩
          repeat' (first | exact Below.refl _ _ | (refine Below.alloc ?_ ?_ _) | (refine Below.drew ?_) | (refine Below.setCell ?_ ?_ _) | (refine Below.trans ?_ (Below.mono (by assumption) ?_)) | omega | (simp; omega) | (simp; done) | exact Below.size (by assumption) | (refine Nat.le_trans ?_ (Below.size (by assumption))))
theorem wrap_succ {n : Int} (h : in64 n) : n ≤ wrap64 (n + 1) ∨ wrap64 (n + 1) < 0 := by unfold in64 at h; unfold wrap64; omega

set_option maxHeartbeats 2000000 in
set_option maxRecDepth 100000 in
theorem walk_FnFee (A : Option Addr) (n c : Nat) (l : List UInt8) (W : World) (_hn : n ≤ c) (_hm : c ≤ maxLen) (hr : Rd W W.heap.size 1 A n (Lib.byteCells l)) :
    Calls Try.prog 14 #[.slice A n c] W fun e w' => e = .returned (.bool true) ∧ Below W.heap.size W w' := by
  by_cases hn1 : 1048576 < n
  · go_enter Try.func14, Try.ntmps14
    go_wp2
    go_ret
    exact ⟨rfl, Below.refl _ _⟩
  · have hn : n ≤ 1048576 := by omega
    clear hn1
    go_enter Try.func14, Try.ntmps14
    go_wp2_with fail
    refine (DrawFee_any W A n c l hr hn).mono ?_
    rintro e w1 ⟨base, ppm, amt, rfl, ha, hb, hd, hb1⟩
    obtain ⟨a, f, hF⟩ : ∃ a f, feeM base ppm amt false = (a, f) := ⟨_, _, rfl⟩
    obtain ⟨b, g, hG⟩ : ∃ b g, feeM base ppm amt true = (b, g) := ⟨_, _, rfl⟩
    have HF := Lib.hid hF
    have HG := Lib.hid hG
    rcases f with _ | _
    · have hg : g = false := by
        rcases g with _ | _
        · rfl
        · exact absurd hG (fee_law1 hF)
      subst hg
      clear hF hG
      go_wp2_with (first | (go_at_call 31; refine (impl_Fee _ _ _ _).mono ?_; rintro e w2 ⟨rfl, hb2⟩; rw [HF.out]) | (go_at_call 33; refine (impl_FeeUp _ _ _ _).mono ?_; rintro e w2 ⟨rfl, hb2⟩; rw [HG.out]) | (go_at_call 30; refine (spec_Fee _ _ _ _).mono ?_; rintro e w3 ⟨rfl, rfl⟩; rw [HF.out]))
      go_ret
      refine ⟨rfl, ?_⟩
      repeat' (first | exact Below.refl _ _ | (refine Below.alloc ?_ ?_ _) | (refine Below.drew ?_) | (refine Below.setCell ?_ ?_ _) | (refine Below.trans ?_ (Below.mono (by assumption) ?_)) | omega | (simp; omega) | (simp; done) | exact Below.size (by assumption) | (refine Nat.le_trans ?_ (Below.size (by assumption))))
    · obtain ⟨d1, d2, d3, d4, d5, d6⟩ := feeM_form hF
      clear d4
      obtain ⟨x, more, hX⟩ : ∃ x more, feeM base ppm (amt + 1) false = (x, more) := ⟨_, _, rfl⟩
      have HX := Lib.hid hX
      have hle : more = true → a ≤ x := fun e => by subst e; exact fee_law4 hF hX (by omega)
      obtain ⟨d1, d1'⟩ := d1
      clear d2 d3
      have key : (g = true ∧ b = a) ∨ (g = true ∧ b = a + 1) ∨ (g = false ∧ a = 1125899906842624) := by
        rcases g with _ | _
        · exact .inr (.inr ⟨rfl, fee_law3 hF hG⟩)
        · rcases fee_law2 hF hG with h | h
          · exact .inl ⟨rfl, h⟩
          · exact .inr (.inl ⟨rfl, h⟩)
      clear hF hG hX
      have hmx : more = false ∨ (more = true ∧ a ≤ x) := by
        rcases more with _ | _
        · exact .inl rfl
        · exact .inr ⟨rfl, hle rfl⟩
      clear hle
      rcases key with ⟨rfl, rfl⟩ | ⟨rfl, rfl⟩ | ⟨rfl, rfl⟩
      all_goals
        rcases hmx with rfl | ⟨rfl, hax⟩
      all_goals
        have tok1 : True := trivial
        go_wp2_with (first | (go_at_call 31; have _t := tok1; refine (impl_Fee base ppm amt _).mono ?_; rintro e w2 ⟨rfl, hb2⟩; rw [HF.out]; clear _t tok1) | (go_at_call 31; refine (impl_Fee base ppm (amt + 1) _).mono ?_; rintro e w2 ⟨rfl, hb3⟩; rw [HX.out]) | (go_at_call 33; refine (impl_FeeUp _ _ _ _).mono ?_; rintro e w2 ⟨rfl, hb2⟩; rw [HG.out]) | (go_at_call 30; refine (spec_Fee _ _ _ _).mono ?_; rintro e w3 ⟨rfl, rfl⟩; rw [HF.out]))
      all_goals
        go_ret
        refine ⟨rfl, ?_⟩
        repeat' (first | exact Below.refl _ _ | (refine Below.alloc ?_ ?_ _) | (refine Below.drew ?_) | (refine Below.setCell ?_ ?_ _) | (refine Below.trans ?_ (Below.mono (by assumption) ?_)) | omega | (simp; omega) | (simp; done) | exact Below.size (by assumption) | (refine Nat.le_trans ?_ (Below.size (by assumption))))
end Go.Proofs.Ytoeegfcbicjhgaa
