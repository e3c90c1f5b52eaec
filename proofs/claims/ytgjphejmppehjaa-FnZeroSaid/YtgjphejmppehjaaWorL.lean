/- The walk of the law on Worth. -/
import Derived.Test.YtgjphejmppehjaaBal
import Derived.Deep.RegionHeld3
namespace Go.Proofs.Ytgjphejmppehjaa
open Go.RowKit
set_option maxHeartbeats 4000000 in
set_option maxRecDepth 100000 in
theorem walk_FnExactWorth (q : Int) (A : Option Addr) (n c : Nat) (ls : List Ln) (W : World) (_hnc : n ≤ c) (_hm : c ≤ maxLen) (hr : Rd W W.heap.size 3 A n (lnCells ls)) :
    Calls Try.prog 7 #[.agg #[.int .i64 q, .slice A n c]] W fun e w' => e = .returned (.bool true) ∧ Below W.heap.size W w' := by
  unfold maxLen at _hm
  by_cases hn1 : 1048576 < n
  · go_enter Try.func7, Try.ntmps7
    go_wp2_with (go_at_call 17; refine (szLedger_any q A n c 1048576 (by omega) (by omega) _).mono ?_; rintro e w1 ⟨rfl, hb1⟩; rw [if_pos (by omega)])
    go_ret
    exact ⟨rfl, (below1 _ _).trans (hb1.mono (by first | (simp; done) | (simp; omega)))⟩
  · have hn : n ≤ 1048576 := by omega
    clear hn1
    obtain ⟨v, hv⟩ : ∃ v, wor q ls = v := ⟨_, rfl⟩
    have HV := Lib.hid hv
    clear hv
    have hbb : (v != v) = false := by simp
    go_enter Try.func7, Try.ntmps7
    go_wp2_with fail
    have he1 : Eff 0 0 W (W.alloc (.cells #[.int .i64 q, .slice A n c] 30)) := Eff.alloc _ _
    have hs1 : (W.alloc (.cells #[.int .i64 q, .slice A n c] 30)).heap.size = W.heap.size + 1 := (by simp)
    have aS_0 : (W.alloc (.cells #[.int .i64 q, .slice A n c] 30)).cell? ⟨W.heap.size, 0, none⟩ = some (.int .i64 q) := var_cell _ _ _ _ _ rfl
    have aS_1 : (W.alloc (.cells #[.int .i64 q, .slice A n c] 30)).cell? ⟨W.heap.size, 1, none⟩ = some (.slice A n c) := var_cell _ _ _ _ _ rfl
    generalize (W.alloc (.cells #[.int .i64 q, .slice A n c] 30)) = w1 at *
    have hz1 : W.heap.size ≤ w1.heap.size := he1.size
    have b1 : Below W.heap.size W w1 := he1.below (Nat.le_refl _) (by omega)
    replace hr := (hr.below (he1.below (B := W.heap.size) (by omega) (by omega)) (Nat.le_refl _))
    have aS_l : W.heap.size < w1.heap.size := (by omega)
    refine (szLedger_any q A n c 1048576 (by omega) (by omega) w1).mono ?_
    rintro e w2 ⟨rfl, hb⟩
    have he2 : Eff 0 0 w1 w2 := Eff.of hb
    have hz2 : w1.heap.size ≤ w2.heap.size := he2.size
    have b2 : Below W.heap.size W w2 := b1.trans (he2.below b1.size (by omega))
    replace hr := (hr.below (he2.below (B := W.heap.size) (by omega) (by omega)) (Nat.le_refl _))
    replace aS_0 := he2.cell aS_0 (by simp only; omega)
    replace aS_1 := he2.cell aS_1 (by simp only; omega)
    replace aS_l := Nat.lt_of_lt_of_le aS_l hz2
    clear hb
    rw [if_neg (by omega)]
    go_wp2_with fail
    refine (toLedger_any q A n c ls w2 (hr.more (by omega)) (by omega)).mono ?_
    rintro e w3 ⟨At1, ct1, rfl, t1, hb⟩
    have he3 : Eff 0 0 w2 w3 := Eff.of hb
    have hz3 : w2.heap.size ≤ w3.heap.size := he3.size
    have b3 : Below W.heap.size W w3 := b2.trans (he3.below b2.size (by omega))
    replace hr := (hr.below (he3.below (B := W.heap.size) (by omega) (by omega)) (Nat.le_refl _))
    replace aS_0 := he3.cell aS_0 (by simp only; omega)
    replace aS_1 := he3.cell aS_1 (by simp only; omega)
    replace aS_l := Nat.lt_of_lt_of_le aS_l hz3
    clear hb
    go_wp2_with fail
    refine (spec_Worth q _ n _ ls w3 (Own.rd t1 (by omega)) (by omega)).mono ?_
    rintro e w4 ⟨rfl, hb⟩
    have he4 : Eff 0 0 w3 w4 := Eff.of hb
    have hz4 : w3.heap.size ≤ w4.heap.size := he4.size
    have b4 : Below W.heap.size W w4 := b3.trans (he4.below b3.size (by omega))
    replace hr := (hr.below (he4.below (B := W.heap.size) (by omega) (by omega)) (Nat.le_refl _))
    replace t1 := Own.keep t1 he4 (by omega)
    replace aS_0 := he4.cell aS_0 (by simp only; omega)
    replace aS_1 := he4.cell aS_1 (by simp only; omega)
    replace aS_l := Nat.lt_of_lt_of_le aS_l hz4
    clear hb
    rw [HV.out]
    clear t1
    go_wp2_with fail
    refine (toLedger_any q A n c ls w4 (hr.more (by omega)) (by omega)).mono ?_
    rintro e w5 ⟨At2, ct2, rfl, t2, hb⟩
    have he5 : Eff 0 0 w4 w5 := Eff.of hb
    have hz5 : w4.heap.size ≤ w5.heap.size := he5.size
    have b5 : Below W.heap.size W w5 := b4.trans (he5.below b4.size (by omega))
    replace hr := (hr.below (he5.below (B := W.heap.size) (by omega) (by omega)) (Nat.le_refl _))
    replace aS_0 := he5.cell aS_0 (by simp only; omega)
    replace aS_1 := he5.cell aS_1 (by simp only; omega)
    replace aS_l := Nat.lt_of_lt_of_le aS_l hz5
    clear hb
    go_wp2_with fail
    have he6 : Eff 0 0 w5 (w5.alloc (.cells #[.int .i64 q, .slice At2 n ct2] 34)) := Eff.alloc _ _
    have hs6 : (w5.alloc (.cells #[.int .i64 q, .slice At2 n ct2] 34)).heap.size = w5.heap.size + 1 := (by simp)
    have x0_0 : (w5.alloc (.cells #[.int .i64 q, .slice At2 n ct2] 34)).cell? ⟨w5.heap.size, 0, none⟩ = some (.int .i64 q) := var_cell _ _ _ _ _ rfl
    have x0_1 : (w5.alloc (.cells #[.int .i64 q, .slice At2 n ct2] 34)).cell? ⟨w5.heap.size, 1, none⟩ = some (.slice At2 n ct2) := var_cell _ _ _ _ _ rfl
    generalize (w5.alloc (.cells #[.int .i64 q, .slice At2 n ct2] 34)) = w6 at *
    have hz6 : w5.heap.size ≤ w6.heap.size := he6.size
    have b6 : Below W.heap.size W w6 := b5.trans (he6.below b5.size (by omega))
    replace hr := (hr.below (he6.below (B := W.heap.size) (by omega) (by omega)) (Nat.le_refl _))
    replace t2 := Own.keep t2 he6 (by omega)
    replace aS_0 := he6.cell aS_0 (by simp only; omega)
    replace aS_1 := he6.cell aS_1 (by simp only; omega)
    replace aS_l := Nat.lt_of_lt_of_le aS_l hz6
    have x0_l : w5.heap.size < w6.heap.size := (by omega)
    refine (impl_Worth q _ n _ ls w6 (Own.rd t2 (by omega)) (by omega)).mono ?_
    rintro e w7 ⟨rfl, hb⟩
    have he7 : Eff 0 0 w6 w7 := Eff.of hb
    have hz7 : w6.heap.size ≤ w7.heap.size := he7.size
    have b7 : Below W.heap.size W w7 := b6.trans (he7.below b6.size (by omega))
    replace hr := (hr.below (he7.below (B := W.heap.size) (by omega) (by omega)) (Nat.le_refl _))
    replace t2 := Own.keep t2 he7 (by omega)
    replace aS_0 := he7.cell aS_0 (by simp only; omega)
    replace aS_1 := he7.cell aS_1 (by simp only; omega)
    replace x0_0 := he7.cell x0_0 (by simp only; omega)
    replace x0_1 := he7.cell x0_1 (by simp only; omega)
    replace aS_l := Nat.lt_of_lt_of_le aS_l hz7
    replace x0_l := Nat.lt_of_lt_of_le x0_l hz7
    clear hb
    rw [HV.out]
    go_wp2_with fail
    have he8 : Eff 0 0 w7 w7.drew := (Eff.refl _ _ _).drew
    have hz8 : w7.heap.size ≤ w7.drew.heap.size := he8.size
    have b8 : Below W.heap.size W w7.drew := b7.trans (he8.below b7.size (by omega))
    replace hr := (hr.below (he8.below (B := W.heap.size) (by omega) (by omega)) (Nat.le_refl _))
    replace t2 := Own.keep t2 he8 (by omega)
    replace aS_0 := he8.cell aS_0 (by simp only; omega)
    replace aS_1 := he8.cell aS_1 (by simp only; omega)
    replace x0_0 := he8.cell x0_0 (by simp only; omega)
    replace x0_1 := he8.cell x0_1 (by simp only; omega)
    replace aS_l := Nat.lt_of_lt_of_le aS_l hz8
    replace x0_l := Nat.lt_of_lt_of_le x0_l hz8
    go_region_held3 (fun w' => w'.cell? ⟨W.heap.size, 0, none⟩ = some (.int .i64 q) ∧ w'.cell? ⟨W.heap.size, 1, none⟩ = some (.slice A n c) ∧ w'.cell? ⟨w5.heap.size, 0, none⟩ = some (.int .i64 q) ∧ w'.cell? ⟨w5.heap.size, 1, none⟩ = some (.slice At2 n ct2)) ((go_split_ands; (repeat' apply And.intro) <;> (first | assumption))) (first | (go_at_call 19; refine (toLedger_any q A n c ls w7.drew (hr.more (by omega)) (by omega)).mono ?_; rintro e w9 ⟨At3, ct3, rfl, t3, hb⟩; have he9 : Eff 0 0 w7.drew w9 := Eff.of hb; have hz9 : w7.drew.heap.size ≤ w9.heap.size := he9.size; have b9 : Below W.heap.size W w9 := b8.trans (he9.below b8.size (by omega)); replace hr := (hr.below (he9.below (B := W.heap.size) (by omega) (by omega)) (Nat.le_refl _)); replace t2 := Own.keep t2 he9 (by omega); replace aS_0 := he9.cell aS_0 (by simp only; omega); replace aS_1 := he9.cell aS_1 (by simp only; omega); replace x0_0 := he9.cell x0_0 (by simp only; omega); replace x0_1 := he9.cell x0_1 (by simp only; omega); replace aS_l := Nat.lt_of_lt_of_le aS_l hz9; replace x0_l := Nat.lt_of_lt_of_le x0_l hz9; clear hb) | (go_at_call 21; refine (eqLedger_same q _ n _ _ n _ ls w9 (Own.rd t2 (by omega)) (Own.rd t3 (by omega)) (by omega)).mono ?_; rintro e w10 ⟨rfl, hb⟩; have he10 : Eff 0 0 w9 w10 := Eff.of hb; have hz10 : w9.heap.size ≤ w10.heap.size := he10.size; have b10 : Below W.heap.size W w10 := b9.trans (he10.below b9.size (by omega)); replace hr := (hr.below (he10.below (B := W.heap.size) (by omega) (by omega)) (Nat.le_refl _)); replace t2 := Own.keep t2 he10 (by omega); replace t3 := Own.keep t3 he10 (by omega); replace aS_0 := he10.cell aS_0 (by simp only; omega); replace aS_1 := he10.cell aS_1 (by simp only; omega); replace x0_0 := he10.cell x0_0 (by simp only; omega); replace x0_1 := he10.cell x0_1 (by simp only; omega); replace aS_l := Nat.lt_of_lt_of_le aS_l hz10; replace x0_l := Nat.lt_of_lt_of_le x0_l hz10; clear hb))
    go_wp2_with fail
    go_ret
    exact ⟨rfl, b10⟩
end Go.Proofs.Ytgjphejmppehjaa
