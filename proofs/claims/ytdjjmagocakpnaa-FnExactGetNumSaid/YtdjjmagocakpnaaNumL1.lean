/- The walk of the law on GetNum. -/
import Derived.Test.YtdjjmagocakpnaaNum
namespace Go.Proofs.Ytdjjmagocakpnaa
open Go.RowKit
set_option maxHeartbeats 1000000 in
set_option maxRecDepth 100000 in
theorem walk_FnExactGetNum (A : Option Addr) (n c : Nat) (l : List UInt8) (p : Int) (_wp : (Lit.int .i64 p).wf = true) (s : Int) (_ws : (Lit.int .i64 s).wf = true) (W : World) (_hnc : n ≤ c) (_hm : c ≤ maxLen) (hr : Rd W W.heap.size 1 A n (Lib.byteCells l)) :
    Calls Try.prog 3 #[.slice A n c, .int .i64 p, .int .i64 s] W fun e w' => e = .returned (.bool true) ∧ Below W.heap.size W w' := by
  have hl := len_of_rd hr
  by_cases hn1 : 1048576 < n
  · clear hl
    go_enter Try.func3, Try.ntmps3
    go_wp2
    go_ret
    exact ⟨rfl, Below.refl _ _⟩
  · have hn : n ≤ 1048576 := by omega
    clear hn1
    obtain ⟨r, ok, hq⟩ : ∃ r ok, getNum l p s = (r, ok) := ⟨_, _, rfl⟩
    have HQ := Lib.hid hq
    clear hq
    clear hl
    go_enter Try.func3, Try.ntmps3
    go_wp2_with fail
    refine (toByteS_any A n c l W (hr.more (by omega)) (by omega)).mono ?_
    rintro e w1 ⟨At1, ct1, rfl, t1, hb⟩
    have he1 : Eff 0 0 W w1 := Eff.of hb
    have hz1 : W.heap.size ≤ w1.heap.size := he1.size
    have b1 : Below W.heap.size W w1 := he1.below (Nat.le_refl _) (by omega)
    replace hr := (hr.below (he1.below (B := W.heap.size) (by omega) (by omega)) (Nat.le_refl _))
    clear hb
    go_wp2_with fail
    refine (spec_GetNum _ _ _ l p s (by omega) _ (t1.rd (by omega))).mono ?_
    rintro e w2 ⟨rfl, hb⟩
    have he2 : Eff 0 0 w1 w2 := Eff.of hb
    have hz2 : w1.heap.size ≤ w2.heap.size := he2.size
    have b2 : Below W.heap.size W w2 := b1.trans (he2.below b1.size (by omega))
    replace hr := (hr.below (he2.below (B := W.heap.size) (by omega) (by omega)) (Nat.le_refl _))
    replace t1 := t1.keep he2 (by omega)
    clear hb
    rw [HQ.out]
    go_wp2_with fail
    refine (toByteS_any A n c l w2 (hr.more (by omega)) (by omega)).mono ?_
    rintro e w3 ⟨Ax0, cx0, rfl, x0, hb⟩
    have he3 : Eff 0 0 w2 w3 := Eff.of hb
    have hz3 : w2.heap.size ≤ w3.heap.size := he3.size
    have b3 : Below W.heap.size W w3 := b2.trans (he3.below b2.size (by omega))
    replace hr := (hr.below (he3.below (B := W.heap.size) (by omega) (by omega)) (Nat.le_refl _))
    replace t1 := t1.keep he3 (by omega)
    clear hb
    go_wp2_with fail
    refine (impl_GetNum _ _ _ l p s (x0.row_le) (by omega) _ (x0.rd (by omega))).mono ?_
    rintro e w4 ⟨rfl, hb⟩
    have he4 : Eff 0 0 w3 w4 := Eff.of hb
    have hz4 : w3.heap.size ≤ w4.heap.size := he4.size
    have b4 : Below W.heap.size W w4 := b3.trans (he4.below b3.size (by omega))
    replace hr := (hr.below (he4.below (B := W.heap.size) (by omega) (by omega)) (Nat.le_refl _))
    replace t1 := t1.keep he4 (by omega)
    replace x0 := x0.keep he4 (by omega)
    clear hb
    rw [HQ.out]
    go_wp2_with fail
    refine (toByteS_any A n c l w4 (hr.more (by omega)) (by omega)).mono ?_
    rintro e w5 ⟨At2, ct2, rfl, t2, hb⟩
    have he5 : Eff 0 0 w4 w5 := Eff.of hb
    have hz5 : w4.heap.size ≤ w5.heap.size := he5.size
    have b5 : Below W.heap.size W w5 := b4.trans (he5.below b4.size (by omega))
    replace hr := (hr.below (he5.below (B := W.heap.size) (by omega) (by omega)) (Nat.le_refl _))
    replace t1 := t1.keep he5 (by omega)
    replace x0 := x0.keep he5 (by omega)
    clear hb
    go_wp2_with fail
    refine (eqByteS_any _ _ _ l _ _ _ l _ (x0.rd (by omega)) (t2.rd (by omega)) (by omega) (by omega)).mono ?_
    rintro e w6 ⟨rfl, hb⟩
    have he6 : Eff 0 0 w5 w6 := Eff.of hb
    have hz6 : w5.heap.size ≤ w6.heap.size := he6.size
    have b6 : Below W.heap.size W w6 := b5.trans (he6.below b5.size (by omega))
    replace hr := (hr.below (he6.below (B := W.heap.size) (by omega) (by omega)) (Nat.le_refl _))
    replace t1 := t1.keep he6 (by omega)
    replace x0 := x0.keep he6 (by omega)
    replace t2 := t2.keep he6 (by omega)
    clear hb
    rw [eqL_self]
    go_wp2_with fail
    go_ret
    exact ⟨rfl, b6⟩
end Go.Proofs.Ytdjjmagocakpnaa
