/- The walk of the law on LinesOk. -/
import Derived.Test.YtgjphejmppehjaaLos
import Derived.Deep.RegionHeld3
namespace Go.Proofs.Ytgjphejmppehjaa
open Go.RowKit
set_option maxHeartbeats 4000000 in
set_option maxRecDepth 100000 in
theorem walk_FnExactLinesOk (A : Option Addr) (n c : Nat) (ls : List Ln) (W : World) (_hnc : n ≤ c) (_hm : c ≤ maxLen) (hr : Rd W W.heap.size 3 A n (lnCells ls)) :
    Calls Try.prog 3 #[.slice A n c] W fun e w' => e = .returned (.bool true) ∧ Below W.heap.size W w' := by
  unfold maxLen at _hm
  by_cases hn1 : 1048576 < n
  · go_enter Try.func3, Try.ntmps3
    go_wp2_with (go_at_call 12; refine (szLineS_any A n c 1048576 (by omega) (by omega) _).mono ?_; rintro e w1 ⟨rfl, rfl⟩; rw [if_pos (by omega)])
    go_ret
    exact ⟨rfl, Below.refl _ _⟩
  · have hn : n ≤ 1048576 := by omega
    clear hn1
    have hbb : (linesOk ls != linesOk ls) = false := by simp
    go_enter Try.func3, Try.ntmps3
    go_wp2_with fail
    refine (szLineS_any A n c 1048576 (by omega) (by omega) W).mono ?_
    rintro e w0 ⟨rfl, rfl⟩
    rw [if_neg (by omega)]
    go_wp2_with fail
    refine (toLineS_any A n c ls W (hr.more (by omega)) (by omega)).mono ?_
    rintro e w1 ⟨At1, ct1, rfl, t1, hb⟩
    have he1 : Eff 0 0 W w1 := Eff.of hb
    have hz1 : W.heap.size ≤ w1.heap.size := he1.size
    have b1 : Below W.heap.size W w1 := he1.below (Nat.le_refl _) (by omega)
    replace hr := (hr.below (he1.below (B := W.heap.size) (by omega) (by omega)) (Nat.le_refl _))
    clear hb
    go_wp2_with fail
    refine (spec_LinesOk _ n _ ls w1 (Own.rd t1 (by omega)) (by omega)).mono ?_
    rintro e w2 ⟨rfl, hb⟩
    have he2 : Eff 0 0 w1 w2 := Eff.of hb
    have hz2 : w1.heap.size ≤ w2.heap.size := he2.size
    have b2 : Below W.heap.size W w2 := b1.trans (he2.below b1.size (by omega))
    replace hr := (hr.below (he2.below (B := W.heap.size) (by omega) (by omega)) (Nat.le_refl _))
    replace t1 := Own.keep t1 he2 (by omega)
    clear hb
    clear t1
    go_wp2_with fail
    refine (toLineS_any A n c ls w2 (hr.more (by omega)) (by omega)).mono ?_
    rintro e w3 ⟨At2, ct2, rfl, t2, hb⟩
    have he3 : Eff 0 0 w2 w3 := Eff.of hb
    have hz3 : w2.heap.size ≤ w3.heap.size := he3.size
    have b3 : Below W.heap.size W w3 := b2.trans (he3.below b2.size (by omega))
    replace hr := (hr.below (he3.below (B := W.heap.size) (by omega) (by omega)) (Nat.le_refl _))
    clear hb
    go_wp2_with fail
    refine (impl_LinesOk _ n _ ls w3 (Own.rd t2 (by omega)) (by omega)).mono ?_
    rintro e w4 ⟨rfl, hb⟩
    have he4 : Eff 0 0 w3 w4 := Eff.of hb
    have hz4 : w3.heap.size ≤ w4.heap.size := he4.size
    have b4 : Below W.heap.size W w4 := b3.trans (he4.below b3.size (by omega))
    replace hr := (hr.below (he4.below (B := W.heap.size) (by omega) (by omega)) (Nat.le_refl _))
    replace t2 := Own.keep t2 he4 (by omega)
    clear hb
    go_wp2_with fail
    refine (toLineS_any A n c ls w4 (hr.more (by omega)) (by omega)).mono ?_
    rintro e w5 ⟨At3, ct3, rfl, t3, hb⟩
    have he5 : Eff 0 0 w4 w5 := Eff.of hb
    have hz5 : w4.heap.size ≤ w5.heap.size := he5.size
    have b5 : Below W.heap.size W w5 := b4.trans (he5.below b4.size (by omega))
    replace hr := (hr.below (he5.below (B := W.heap.size) (by omega) (by omega)) (Nat.le_refl _))
    replace t2 := Own.keep t2 he5 (by omega)
    clear hb
    go_wp2_with fail
    refine (eqLineS_same _ n _ _ n _ ls w5 (Own.rd t2 (by omega)) (Own.rd t3 (by omega)) (by omega)).mono ?_
    rintro e w6 ⟨rfl, hb⟩
    have he6 : Eff 0 0 w5 w6 := Eff.of hb
    have hz6 : w5.heap.size ≤ w6.heap.size := he6.size
    have b6 : Below W.heap.size W w6 := b5.trans (he6.below b5.size (by omega))
    replace hr := (hr.below (he6.below (B := W.heap.size) (by omega) (by omega)) (Nat.le_refl _))
    replace t2 := Own.keep t2 he6 (by omega)
    replace t3 := Own.keep t3 he6 (by omega)
    clear hb
    go_wp2_with fail
    go_ret
    exact ⟨rfl, b6⟩
end Go.Proofs.Ytgjphejmppehjaa
