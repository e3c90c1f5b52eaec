/- The walk of the law on BodyEvent. -/
import Derived.Test.YtdjjmagocakpnaaBev2
import Derived.Test.YtdjjmagocakpnaaEvL
namespace Go.Proofs.Ytdjjmagocakpnaa
open Go.RowKit
theorem EvR.get {l : List UInt8} {w w' : World} {e : Ending} (h : EvR l w e w') {gd y : Bool} {a0 a1 a2 a3 a4 a5 : Int} (h0 : evGood l = gd) (k0 : (if evGood l then (getNum l 1 1).1 else 0) = a0) (k1 : (if evGood l then (getNum l 2 3).1 else 0) = a1) (k2 : (if evGood l then (getNum l 5 1).1 else 0) = a2) (k3 : (if evGood l then (getNum l 6 1).1 else 0) = a3) (k4 : (if evGood l then (getNum l 7 7).1 else 0) = a4) (k5 : (if evGood l then (getNum l 14 7).1 else 0) = a5) (k6 : (if evGood l then (getNum l 21 1).1 == 1 else false) = y) :
    e = .returned (.tuple #[.agg #[.int .i64 a0, .int .i64 a1, .int .i64 a2, .int .i64 a3, .int .i64 a4, .int .i64 a5, .bool y], .bool gd]) ∧ Below w.heap.size w w' := by
  obtain ⟨he, hb⟩ := h
  rw [k0, k1, k2, k3, k4, k5, k6, h0] at he
  exact ⟨he, hb⟩
set_option maxHeartbeats 4000000 in
set_option maxRecDepth 100000 in
theorem walk_FnExactBodyEvent (A : Option Addr) (n c : Nat) (l : List UInt8) (W : World) (_hnc : n ≤ c) (_hm : c ≤ maxLen) (hr : Rd W W.heap.size 1 A n (Lib.byteCells l)) :
    Calls Try.prog 14 #[.slice A n c] W fun e w' => e = .returned (.bool true) ∧ Below W.heap.size W w' := by
  by_cases hn1 : 1048576 < n
  · unfold maxLen at _hm
    go_enter Try.func14, Try.ntmps14
    go_wp2
    go_ret
    exact ⟨rfl, Below.refl _ _⟩
  · have hn : n ≤ 1048576 := by omega
    clear hn1
    obtain ⟨gd, hG⟩ : ∃ x, evGood l = x := ⟨_, rfl⟩
    have HG := Lib.hid hG
    have hbb : (gd != gd) = false := by simp
    clear hG
    obtain ⟨a0, ha0⟩ : ∃ x, (if evGood l then (getNum l 1 1).1 else 0) = x := ⟨_, rfl⟩
    have HA0 := Lib.hid ha0
    clear ha0
    obtain ⟨a1, ha1⟩ : ∃ x, (if evGood l then (getNum l 2 3).1 else 0) = x := ⟨_, rfl⟩
    have HA1 := Lib.hid ha1
    clear ha1
    obtain ⟨a2, ha2⟩ : ∃ x, (if evGood l then (getNum l 5 1).1 else 0) = x := ⟨_, rfl⟩
    have HA2 := Lib.hid ha2
    clear ha2
    obtain ⟨a3, ha3⟩ : ∃ x, (if evGood l then (getNum l 6 1).1 else 0) = x := ⟨_, rfl⟩
    have HA3 := Lib.hid ha3
    clear ha3
    obtain ⟨a4, ha4⟩ : ∃ x, (if evGood l then (getNum l 7 7).1 else 0) = x := ⟨_, rfl⟩
    have HA4 := Lib.hid ha4
    clear ha4
    obtain ⟨a5, ha5⟩ : ∃ x, (if evGood l then (getNum l 14 7).1 else 0) = x := ⟨_, rfl⟩
    have HA5 := Lib.hid ha5
    clear ha5
    obtain ⟨y, hy⟩ : ∃ x, (if evGood l then (getNum l 21 1).1 == 1 else false) = x := ⟨_, rfl⟩
    have HY := Lib.hid hy
    clear hy
    go_enter Try.func14, Try.ntmps14
    go_wp2_with fail
    refine (toByteS_any A n c l W (hr.more (by omega)) (by omega)).mono ?_
    rintro e w1 ⟨At1, ct1, rfl, t1, hb⟩
    have he1 : Eff 0 0 W w1 := Eff.of hb
    have hz1 : W.heap.size ≤ w1.heap.size := he1.size
    have b1 : Below W.heap.size W w1 := he1.below (Nat.le_refl _) (by omega)
    replace hr := (hr.below (he1.below (B := W.heap.size) (by omega) (by omega)) (Nat.le_refl _))
    clear hb
    go_wp2_with fail
    refine (spec_BodyEvent _ n _ l (by omega) w1 (t1.rd (by omega))).mono ?_
    rintro e w2 hpost
    obtain ⟨rfl, hb⟩ := hpost.get HG.out HA0.out HA1.out HA2.out HA3.out HA4.out HA5.out HY.out
    clear hpost
    have he2 : Eff 0 0 w1 w2 := Eff.of hb
    have hz2 : w1.heap.size ≤ w2.heap.size := he2.size
    have b2 : Below W.heap.size W w2 := b1.trans (he2.below b1.size (by omega))
    replace hr := (hr.below (he2.below (B := W.heap.size) (by omega) (by omega)) (Nat.le_refl _))
    replace t1 := t1.keep he2 (by omega)
    clear hb
    clear t1
    go_wp2_with fail
    have he3 : Eff 0 0 w2 (w2.alloc (.cells #[.int .i64 a0, .int .i64 a1, .int .i64 a2, .int .i64 a3, .int .i64 a4, .int .i64 a5, .bool y] 42)) := Eff.alloc _ _
    have hs3 : (w2.alloc (.cells #[.int .i64 a0, .int .i64 a1, .int .i64 a2, .int .i64 a3, .int .i64 a4, .int .i64 a5, .bool y] 42)).heap.size = w2.heap.size + 1 := (by simp)
    have G_0 : (w2.alloc (.cells #[.int .i64 a0, .int .i64 a1, .int .i64 a2, .int .i64 a3, .int .i64 a4, .int .i64 a5, .bool y] 42)).cell? ⟨w2.heap.size, 0, none⟩ = some (.int .i64 a0) := var_cell _ _ _ _ _ rfl
    have G_1 : (w2.alloc (.cells #[.int .i64 a0, .int .i64 a1, .int .i64 a2, .int .i64 a3, .int .i64 a4, .int .i64 a5, .bool y] 42)).cell? ⟨w2.heap.size, 1, none⟩ = some (.int .i64 a1) := var_cell _ _ _ _ _ rfl
    have G_2 : (w2.alloc (.cells #[.int .i64 a0, .int .i64 a1, .int .i64 a2, .int .i64 a3, .int .i64 a4, .int .i64 a5, .bool y] 42)).cell? ⟨w2.heap.size, 2, none⟩ = some (.int .i64 a2) := var_cell _ _ _ _ _ rfl
    have G_3 : (w2.alloc (.cells #[.int .i64 a0, .int .i64 a1, .int .i64 a2, .int .i64 a3, .int .i64 a4, .int .i64 a5, .bool y] 42)).cell? ⟨w2.heap.size, 3, none⟩ = some (.int .i64 a3) := var_cell _ _ _ _ _ rfl
    have G_4 : (w2.alloc (.cells #[.int .i64 a0, .int .i64 a1, .int .i64 a2, .int .i64 a3, .int .i64 a4, .int .i64 a5, .bool y] 42)).cell? ⟨w2.heap.size, 4, none⟩ = some (.int .i64 a4) := var_cell _ _ _ _ _ rfl
    have G_5 : (w2.alloc (.cells #[.int .i64 a0, .int .i64 a1, .int .i64 a2, .int .i64 a3, .int .i64 a4, .int .i64 a5, .bool y] 42)).cell? ⟨w2.heap.size, 5, none⟩ = some (.int .i64 a5) := var_cell _ _ _ _ _ rfl
    have G_6 : (w2.alloc (.cells #[.int .i64 a0, .int .i64 a1, .int .i64 a2, .int .i64 a3, .int .i64 a4, .int .i64 a5, .bool y] 42)).cell? ⟨w2.heap.size, 6, none⟩ = some (.bool y) := var_cell _ _ _ _ _ rfl
    generalize (w2.alloc (.cells #[.int .i64 a0, .int .i64 a1, .int .i64 a2, .int .i64 a3, .int .i64 a4, .int .i64 a5, .bool y] 42)) = w3 at *
    have hz3 : w2.heap.size ≤ w3.heap.size := he3.size
    have b3 : Below W.heap.size W w3 := b2.trans (he3.below b2.size (by omega))
    replace hr := (hr.below (he3.below (B := W.heap.size) (by omega) (by omega)) (Nat.le_refl _))
    have G_l : w2.heap.size < w3.heap.size := (by omega)
    refine (toByteS_any A n c l w3 (hr.more (by omega)) (by omega)).mono ?_
    rintro e w4 ⟨At2, ct2, rfl, t2, hb⟩
    have he4 : Eff 0 0 w3 w4 := Eff.of hb
    have hz4 : w3.heap.size ≤ w4.heap.size := he4.size
    have b4 : Below W.heap.size W w4 := b3.trans (he4.below b3.size (by omega))
    replace hr := (hr.below (he4.below (B := W.heap.size) (by omega) (by omega)) (Nat.le_refl _))
    replace G_0 := he4.cell G_0 (by simp only; omega)
    replace G_1 := he4.cell G_1 (by simp only; omega)
    replace G_2 := he4.cell G_2 (by simp only; omega)
    replace G_3 := he4.cell G_3 (by simp only; omega)
    replace G_4 := he4.cell G_4 (by simp only; omega)
    replace G_5 := he4.cell G_5 (by simp only; omega)
    replace G_6 := he4.cell G_6 (by simp only; omega)
    replace G_l := Nat.lt_of_lt_of_le G_l hz4
    clear hb
    go_wp2_with fail
    refine (impl_BodyEvent _ n _ l t2.row_le (Own.caps t2).2 w4 (t2.rd (by omega))).mono ?_
    rintro e w5 hpost
    obtain ⟨rfl, hb⟩ := hpost.get HG.out HA0.out HA1.out HA2.out HA3.out HA4.out HA5.out HY.out
    clear hpost
    have he5 : Eff 0 0 w4 w5 := Eff.of hb
    have hz5 : w4.heap.size ≤ w5.heap.size := he5.size
    have b5 : Below W.heap.size W w5 := b4.trans (he5.below b4.size (by omega))
    replace hr := (hr.below (he5.below (B := W.heap.size) (by omega) (by omega)) (Nat.le_refl _))
    replace t2 := t2.keep he5 (by omega)
    replace G_0 := he5.cell G_0 (by simp only; omega)
    replace G_1 := he5.cell G_1 (by simp only; omega)
    replace G_2 := he5.cell G_2 (by simp only; omega)
    replace G_3 := he5.cell G_3 (by simp only; omega)
    replace G_4 := he5.cell G_4 (by simp only; omega)
    replace G_5 := he5.cell G_5 (by simp only; omega)
    replace G_6 := he5.cell G_6 (by simp only; omega)
    replace G_l := Nat.lt_of_lt_of_le G_l hz5
    clear hb
    go_wp2_with fail
    have he6 : Eff 0 0 w5 (w5.alloc (.cells #[.int .i64 a0, .int .i64 a1, .int .i64 a2, .int .i64 a3, .int .i64 a4, .int .i64 a5, .bool y] 42)) := Eff.alloc _ _
    have hs6 : (w5.alloc (.cells #[.int .i64 a0, .int .i64 a1, .int .i64 a2, .int .i64 a3, .int .i64 a4, .int .i64 a5, .bool y] 42)).heap.size = w5.heap.size + 1 := (by simp)
    have H_0 : (w5.alloc (.cells #[.int .i64 a0, .int .i64 a1, .int .i64 a2, .int .i64 a3, .int .i64 a4, .int .i64 a5, .bool y] 42)).cell? ⟨w5.heap.size, 0, none⟩ = some (.int .i64 a0) := var_cell _ _ _ _ _ rfl
    have H_1 : (w5.alloc (.cells #[.int .i64 a0, .int .i64 a1, .int .i64 a2, .int .i64 a3, .int .i64 a4, .int .i64 a5, .bool y] 42)).cell? ⟨w5.heap.size, 1, none⟩ = some (.int .i64 a1) := var_cell _ _ _ _ _ rfl
    have H_2 : (w5.alloc (.cells #[.int .i64 a0, .int .i64 a1, .int .i64 a2, .int .i64 a3, .int .i64 a4, .int .i64 a5, .bool y] 42)).cell? ⟨w5.heap.size, 2, none⟩ = some (.int .i64 a2) := var_cell _ _ _ _ _ rfl
    have H_3 : (w5.alloc (.cells #[.int .i64 a0, .int .i64 a1, .int .i64 a2, .int .i64 a3, .int .i64 a4, .int .i64 a5, .bool y] 42)).cell? ⟨w5.heap.size, 3, none⟩ = some (.int .i64 a3) := var_cell _ _ _ _ _ rfl
    have H_4 : (w5.alloc (.cells #[.int .i64 a0, .int .i64 a1, .int .i64 a2, .int .i64 a3, .int .i64 a4, .int .i64 a5, .bool y] 42)).cell? ⟨w5.heap.size, 4, none⟩ = some (.int .i64 a4) := var_cell _ _ _ _ _ rfl
    have H_5 : (w5.alloc (.cells #[.int .i64 a0, .int .i64 a1, .int .i64 a2, .int .i64 a3, .int .i64 a4, .int .i64 a5, .bool y] 42)).cell? ⟨w5.heap.size, 5, none⟩ = some (.int .i64 a5) := var_cell _ _ _ _ _ rfl
    have H_6 : (w5.alloc (.cells #[.int .i64 a0, .int .i64 a1, .int .i64 a2, .int .i64 a3, .int .i64 a4, .int .i64 a5, .bool y] 42)).cell? ⟨w5.heap.size, 6, none⟩ = some (.bool y) := var_cell _ _ _ _ _ rfl
    generalize (w5.alloc (.cells #[.int .i64 a0, .int .i64 a1, .int .i64 a2, .int .i64 a3, .int .i64 a4, .int .i64 a5, .bool y] 42)) = w6 at *
    have hz6 : w5.heap.size ≤ w6.heap.size := he6.size
    have b6 : Below W.heap.size W w6 := b5.trans (he6.below b5.size (by omega))
    replace hr := (hr.below (he6.below (B := W.heap.size) (by omega) (by omega)) (Nat.le_refl _))
    replace t2 := t2.keep he6 (by omega)
    replace G_0 := he6.cell G_0 (by simp only; omega)
    replace G_1 := he6.cell G_1 (by simp only; omega)
    replace G_2 := he6.cell G_2 (by simp only; omega)
    replace G_3 := he6.cell G_3 (by simp only; omega)
    replace G_4 := he6.cell G_4 (by simp only; omega)
    replace G_5 := he6.cell G_5 (by simp only; omega)
    replace G_6 := he6.cell G_6 (by simp only; omega)
    replace G_l := Nat.lt_of_lt_of_le G_l hz6
    have H_l : w5.heap.size < w6.heap.size := (by omega)
    refine (eqEvent_same a0 a1 a2 a3 a4 a5 y w6).mono ?_
    rintro e w7 ⟨rfl, hb⟩
    have he7 : Eff 0 0 w6 w7 := Eff.of hb
    have hz7 : w6.heap.size ≤ w7.heap.size := he7.size
    have b7 : Below W.heap.size W w7 := b6.trans (he7.below b6.size (by omega))
    replace hr := (hr.below (he7.below (B := W.heap.size) (by omega) (by omega)) (Nat.le_refl _))
    replace t2 := t2.keep he7 (by omega)
    replace G_0 := he7.cell G_0 (by simp only; omega)
    replace G_1 := he7.cell G_1 (by simp only; omega)
    replace G_2 := he7.cell G_2 (by simp only; omega)
    replace G_3 := he7.cell G_3 (by simp only; omega)
    replace G_4 := he7.cell G_4 (by simp only; omega)
    replace G_5 := he7.cell G_5 (by simp only; omega)
    replace G_6 := he7.cell G_6 (by simp only; omega)
    replace H_0 := he7.cell H_0 (by simp only; omega)
    replace H_1 := he7.cell H_1 (by simp only; omega)
    replace H_2 := he7.cell H_2 (by simp only; omega)
    replace H_3 := he7.cell H_3 (by simp only; omega)
    replace H_4 := he7.cell H_4 (by simp only; omega)
    replace H_5 := he7.cell H_5 (by simp only; omega)
    replace H_6 := he7.cell H_6 (by simp only; omega)
    replace G_l := Nat.lt_of_lt_of_le G_l hz7
    replace H_l := Nat.lt_of_lt_of_le H_l hz7
    clear hb
    go_wp2_with fail
    refine (toByteS_any A n c l w7 (hr.more (by omega)) (by omega)).mono ?_
    rintro e w8 ⟨At3, ct3, rfl, t3, hb⟩
    have he8 : Eff 0 0 w7 w8 := Eff.of hb
    have hz8 : w7.heap.size ≤ w8.heap.size := he8.size
    have b8 : Below W.heap.size W w8 := b7.trans (he8.below b7.size (by omega))
    replace hr := (hr.below (he8.below (B := W.heap.size) (by omega) (by omega)) (Nat.le_refl _))
    replace t2 := t2.keep he8 (by omega)
    replace G_0 := he8.cell G_0 (by simp only; omega)
    replace G_1 := he8.cell G_1 (by simp only; omega)
    replace G_2 := he8.cell G_2 (by simp only; omega)
    replace G_3 := he8.cell G_3 (by simp only; omega)
    replace G_4 := he8.cell G_4 (by simp only; omega)
    replace G_5 := he8.cell G_5 (by simp only; omega)
    replace G_6 := he8.cell G_6 (by simp only; omega)
    replace H_0 := he8.cell H_0 (by simp only; omega)
    replace H_1 := he8.cell H_1 (by simp only; omega)
    replace H_2 := he8.cell H_2 (by simp only; omega)
    replace H_3 := he8.cell H_3 (by simp only; omega)
    replace H_4 := he8.cell H_4 (by simp only; omega)
    replace H_5 := he8.cell H_5 (by simp only; omega)
    replace H_6 := he8.cell H_6 (by simp only; omega)
    replace G_l := Nat.lt_of_lt_of_le G_l hz8
    replace H_l := Nat.lt_of_lt_of_le H_l hz8
    clear hb
    go_wp2_with fail
    refine (eqByteS_any _ _ _ l _ _ _ l w8 (t2.rd (by omega)) (t3.rd (by omega)) (by omega) (by omega)).mono ?_
    rintro e w9 ⟨rfl, hb⟩
    have he9 : Eff 0 0 w8 w9 := Eff.of hb
    have hz9 : w8.heap.size ≤ w9.heap.size := he9.size
    have b9 : Below W.heap.size W w9 := b8.trans (he9.below b8.size (by omega))
    replace hr := (hr.below (he9.below (B := W.heap.size) (by omega) (by omega)) (Nat.le_refl _))
    replace t2 := t2.keep he9 (by omega)
    replace t3 := t3.keep he9 (by omega)
    replace G_0 := he9.cell G_0 (by simp only; omega)
    replace G_1 := he9.cell G_1 (by simp only; omega)
    replace G_2 := he9.cell G_2 (by simp only; omega)
    replace G_3 := he9.cell G_3 (by simp only; omega)
    replace G_4 := he9.cell G_4 (by simp only; omega)
    replace G_5 := he9.cell G_5 (by simp only; omega)
    replace G_6 := he9.cell G_6 (by simp only; omega)
    replace H_0 := he9.cell H_0 (by simp only; omega)
    replace H_1 := he9.cell H_1 (by simp only; omega)
    replace H_2 := he9.cell H_2 (by simp only; omega)
    replace H_3 := he9.cell H_3 (by simp only; omega)
    replace H_4 := he9.cell H_4 (by simp only; omega)
    replace H_5 := he9.cell H_5 (by simp only; omega)
    replace H_6 := he9.cell H_6 (by simp only; omega)
    replace G_l := Nat.lt_of_lt_of_le G_l hz9
    replace H_l := Nat.lt_of_lt_of_le H_l hz9
    clear hb
    rw [eqL_self]
    go_wp2_with fail
    go_ret
    exact ⟨rfl, b9⟩
end Go.Proofs.Ytdjjmagocakpnaa
