/- The walk of the law on Balance. -/
import Derived.Test.YtgjphejmppehjaaBal
import Derived.Deep.RegionHeld3
namespace Go.Proofs.Ytgjphejmppehjaa
open Go.RowKit
set_option maxHeartbeats 4000000 in
set_option maxRecDepth 100000 in
theorem walk_FnExactBalance (q : Int) (A : Option Addr) (n c : Nat) (ls : List Ln) (k ch : Int) (_wk : (Lit.int .i64 k).wf = true) (_wc : (Lit.int .i64 ch).wf = true) (W : World) (_hnc : n ≤ c) (_hm : c ≤ maxLen) (hr : Rd W W.heap.size 3 A n (lnCells ls)) :
    Calls Try.prog 6 #[.agg #[.int .i64 q, .slice A n c], .agg #[.int .i64 k, .int .i64 ch]] W fun e w' => e = .returned (.bool true) ∧ Below W.heap.size W w' := by
  unfold maxLen at _hm
  by_cases hn1 : 1048576 < n
  · go_enter Try.func6, Try.ntmps6
    go_wp2_with (go_at_call 17; refine (szLedger_any q A n c 1048576 (by omega) (by omega) _).mono ?_; rintro e w1 ⟨rfl, hb1⟩; rw [if_pos (by omega)])
    go_ret
    exact ⟨rfl, (((Below.refl _ _).alloc (Nat.le_refl _) _).alloc (by simp) _).trans (hb1.mono (by first | (simp; done) | (simp; omega)))⟩
  · have hn : n ≤ 1048576 := by omega
    clear hn1
    obtain ⟨v, hv⟩ : ∃ v, bal q ls k ch = v := ⟨_, rfl⟩
    have HV := Lib.hid hv
    clear hv
    have hbb : (v != v) = false := by simp
    go_enter Try.func6, Try.ntmps6
    go_wp2_with fail
    have he1 : Eff 0 0 W (W.alloc (.cells #[.int .i64 q, .slice A n c] 30)) := Eff.alloc _ _
    have hs1 : (W.alloc (.cells #[.int .i64 q, .slice A n c] 30)).heap.size = W.heap.size + 1 := (by simp)
    have aS_0 : (W.alloc (.cells #[.int .i64 q, .slice A n c] 30)).cell? ⟨W.heap.size, 0, none⟩ = some (.int .i64 q) := var_cell _ _ _ _ _ rfl
    have aS_1 : (W.alloc (.cells #[.int .i64 q, .slice A n c] 30)).cell? ⟨W.heap.size, 1, none⟩ = some (.slice A n c) := var_cell _ _ _ _ _ rfl
    generalize (W.alloc (.cells #[.int .i64 q, .slice A n c] 30)) = w1 at *
    have hz1 : W.heap.size ≤ w1.heap.size := he1.size
    have b1 : Below W.heap.size W w1 := he1.below (Nat.le_refl _) (by omega)
    replace hr := (hr.below (he1.below (B := W.heap.size) (by omega) (by omega)) (Nat.le_refl _))
    have aS_l : W.heap.size < w1.heap.size := (by omega)
    have he2 : Eff 0 0 w1 (w1.alloc (.cells #[.int .i64 k, .int .i64 ch] 48)) := Eff.alloc _ _
    have hs2 : (w1.alloc (.cells #[.int .i64 k, .int .i64 ch] 48)).heap.size = w1.heap.size + 1 := (by simp)
    have aA_0 : (w1.alloc (.cells #[.int .i64 k, .int .i64 ch] 48)).cell? ⟨w1.heap.size, 0, none⟩ = some (.int .i64 k) := var_cell _ _ _ _ _ rfl
    have aA_1 : (w1.alloc (.cells #[.int .i64 k, .int .i64 ch] 48)).cell? ⟨w1.heap.size, 1, none⟩ = some (.int .i64 ch) := var_cell _ _ _ _ _ rfl
    generalize (w1.alloc (.cells #[.int .i64 k, .int .i64 ch] 48)) = w2 at *
    have hz2 : w1.heap.size ≤ w2.heap.size := he2.size
    have b2 : Below W.heap.size W w2 := b1.trans (he2.below b1.size (by omega))
    replace hr := (hr.below (he2.below (B := W.heap.size) (by omega) (by omega)) (Nat.le_refl _))
    replace aS_0 := he2.cell aS_0 (by simp only; omega)
    replace aS_1 := he2.cell aS_1 (by simp only; omega)
    replace aS_l := Nat.lt_of_lt_of_le aS_l hz2
    rw [hs1] at aA_0
    rw [hs1] at aA_1
    have aA_l : W.heap.size + 1 < w2.heap.size := (by omega)
    refine (szLedger_any q A n c 1048576 (by omega) (by omega) w2).mono ?_
    rintro e w3 ⟨rfl, hb⟩
    have he3 : Eff 0 0 w2 w3 := Eff.of hb
    have hz3 : w2.heap.size ≤ w3.heap.size := he3.size
    have b3 : Below W.heap.size W w3 := b2.trans (he3.below b2.size (by omega))
    replace hr := (hr.below (he3.below (B := W.heap.size) (by omega) (by omega)) (Nat.le_refl _))
    replace aS_0 := he3.cell aS_0 (by simp only; omega)
    replace aS_1 := he3.cell aS_1 (by simp only; omega)
    replace aA_0 := he3.cell aA_0 (by simp only; omega)
    replace aA_1 := he3.cell aA_1 (by simp only; omega)
    replace aS_l := Nat.lt_of_lt_of_le aS_l hz3
    replace aA_l := Nat.lt_of_lt_of_le aA_l hz3
    clear hb
    rw [if_neg (by omega)]
    go_wp2_with fail
    have he4 : Eff 0 0 w3 w3.drew := (Eff.refl _ _ _).drew
    have hz4 : w3.heap.size ≤ w3.drew.heap.size := he4.size
    have b4 : Below W.heap.size W w3.drew := b3.trans (he4.below b3.size (by omega))
    replace hr := (hr.below (he4.below (B := W.heap.size) (by omega) (by omega)) (Nat.le_refl _))
    replace aS_0 := he4.cell aS_0 (by simp only; omega)
    replace aS_1 := he4.cell aS_1 (by simp only; omega)
    replace aA_0 := he4.cell aA_0 (by simp only; omega)
    replace aA_1 := he4.cell aA_1 (by simp only; omega)
    replace aS_l := Nat.lt_of_lt_of_le aS_l hz4
    replace aA_l := Nat.lt_of_lt_of_le aA_l hz4
    go_region_held3 (fun w' => w'.cell? ⟨W.heap.size, 0, none⟩ = some (.int .i64 q) ∧ w'.cell? ⟨W.heap.size, 1, none⟩ = some (.slice A n c) ∧ w'.cell? ⟨W.heap.size + 1, 0, none⟩ = some (.int .i64 k) ∧ w'.cell? ⟨W.heap.size + 1, 1, none⟩ = some (.int .i64 ch)) ((go_split_ands; (repeat' apply And.intro) <;> (first | assumption))) (first | (go_at_call 19; refine (toLedger_any q A n c ls w3.drew (hr.more (by omega)) (by omega)).mono ?_; rintro e w5 ⟨At1, ct1, rfl, t1, hb⟩; have he5 : Eff 0 0 w3.drew w5 := Eff.of hb; have hz5 : w3.drew.heap.size ≤ w5.heap.size := he5.size; have b5 : Below W.heap.size W w5 := b4.trans (he5.below b4.size (by omega)); replace hr := (hr.below (he5.below (B := W.heap.size) (by omega) (by omega)) (Nat.le_refl _)); replace aS_0 := he5.cell aS_0 (by simp only; omega); replace aS_1 := he5.cell aS_1 (by simp only; omega); replace aA_0 := he5.cell aA_0 (by simp only; omega); replace aA_1 := he5.cell aA_1 (by simp only; omega); replace aS_l := Nat.lt_of_lt_of_le aS_l hz5; replace aA_l := Nat.lt_of_lt_of_le aA_l hz5; clear hb) | (go_at_call 28; refine (laws_toAcc k ch w5).mono ?_; rintro e w6 ⟨rfl, hb⟩; have he6 : Eff 0 0 w5 w6 := Eff.of hb; have hz6 : w5.heap.size ≤ w6.heap.size := he6.size; have b6 : Below W.heap.size W w6 := b5.trans (he6.below b5.size (by omega)); replace hr := (hr.below (he6.below (B := W.heap.size) (by omega) (by omega)) (Nat.le_refl _)); replace t1 := Own.keep t1 he6 (by omega); replace aS_0 := he6.cell aS_0 (by simp only; omega); replace aS_1 := he6.cell aS_1 (by simp only; omega); replace aA_0 := he6.cell aA_0 (by simp only; omega); replace aA_1 := he6.cell aA_1 (by simp only; omega); replace aS_l := Nat.lt_of_lt_of_le aS_l hz6; replace aA_l := Nat.lt_of_lt_of_le aA_l hz6; clear hb) | (go_at_call 27; refine (spec_Balance q _ n _ ls k ch w6 (Own.rd t1 (by omega)) (by omega)).mono ?_; rintro e w7 ⟨rfl, hb⟩; have he7 : Eff 0 0 w6 w7 := Eff.of hb; have hz7 : w6.heap.size ≤ w7.heap.size := he7.size; have b7 : Below W.heap.size W w7 := b6.trans (he7.below b6.size (by omega)); replace hr := (hr.below (he7.below (B := W.heap.size) (by omega) (by omega)) (Nat.le_refl _)); replace t1 := Own.keep t1 he7 (by omega); replace aS_0 := he7.cell aS_0 (by simp only; omega); replace aS_1 := he7.cell aS_1 (by simp only; omega); replace aA_0 := he7.cell aA_0 (by simp only; omega); replace aA_1 := he7.cell aA_1 (by simp only; omega); replace aS_l := Nat.lt_of_lt_of_le aS_l hz7; replace aA_l := Nat.lt_of_lt_of_le aA_l hz7; clear hb; rw [HV.out]))
    clear t1
    go_wp2_with fail
    refine (toLedger_any q A n c ls w7 (hr.more (by omega)) (by omega)).mono ?_
    rintro e w8 ⟨At2, ct2, rfl, t2, hb⟩
    have he8 : Eff 0 0 w7 w8 := Eff.of hb
    have hz8 : w7.heap.size ≤ w8.heap.size := he8.size
    have b8 : Below W.heap.size W w8 := b7.trans (he8.below b7.size (by omega))
    replace hr := (hr.below (he8.below (B := W.heap.size) (by omega) (by omega)) (Nat.le_refl _))
    replace aS_0 := he8.cell aS_0 (by simp only; omega)
    replace aS_1 := he8.cell aS_1 (by simp only; omega)
    replace aA_0 := he8.cell aA_0 (by simp only; omega)
    replace aA_1 := he8.cell aA_1 (by simp only; omega)
    replace aS_l := Nat.lt_of_lt_of_le aS_l hz8
    replace aA_l := Nat.lt_of_lt_of_le aA_l hz8
    clear hb
    go_wp2_with fail
    have he9 : Eff 0 0 w8 (w8.alloc (.cells #[.int .i64 q, .slice At2 n ct2] 34)) := Eff.alloc _ _
    have hs9 : (w8.alloc (.cells #[.int .i64 q, .slice At2 n ct2] 34)).heap.size = w8.heap.size + 1 := (by simp)
    have x0_0 : (w8.alloc (.cells #[.int .i64 q, .slice At2 n ct2] 34)).cell? ⟨w8.heap.size, 0, none⟩ = some (.int .i64 q) := var_cell _ _ _ _ _ rfl
    have x0_1 : (w8.alloc (.cells #[.int .i64 q, .slice At2 n ct2] 34)).cell? ⟨w8.heap.size, 1, none⟩ = some (.slice At2 n ct2) := var_cell _ _ _ _ _ rfl
    generalize (w8.alloc (.cells #[.int .i64 q, .slice At2 n ct2] 34)) = w9 at *
    have hz9 : w8.heap.size ≤ w9.heap.size := he9.size
    have b9 : Below W.heap.size W w9 := b8.trans (he9.below b8.size (by omega))
    replace hr := (hr.below (he9.below (B := W.heap.size) (by omega) (by omega)) (Nat.le_refl _))
    replace t2 := Own.keep t2 he9 (by omega)
    replace aS_0 := he9.cell aS_0 (by simp only; omega)
    replace aS_1 := he9.cell aS_1 (by simp only; omega)
    replace aA_0 := he9.cell aA_0 (by simp only; omega)
    replace aA_1 := he9.cell aA_1 (by simp only; omega)
    replace aS_l := Nat.lt_of_lt_of_le aS_l hz9
    replace aA_l := Nat.lt_of_lt_of_le aA_l hz9
    have x0_l : w8.heap.size < w9.heap.size := (by omega)
    have he10 : Eff 0 0 w9 w9.drew := (Eff.refl _ _ _).drew
    have hz10 : w9.heap.size ≤ w9.drew.heap.size := he10.size
    have b10 : Below W.heap.size W w9.drew := b9.trans (he10.below b9.size (by omega))
    replace hr := (hr.below (he10.below (B := W.heap.size) (by omega) (by omega)) (Nat.le_refl _))
    replace t2 := Own.keep t2 he10 (by omega)
    replace aS_0 := he10.cell aS_0 (by simp only; omega)
    replace aS_1 := he10.cell aS_1 (by simp only; omega)
    replace aA_0 := he10.cell aA_0 (by simp only; omega)
    replace aA_1 := he10.cell aA_1 (by simp only; omega)
    replace x0_0 := he10.cell x0_0 (by simp only; omega)
    replace x0_1 := he10.cell x0_1 (by simp only; omega)
    replace aS_l := Nat.lt_of_lt_of_le aS_l hz10
    replace aA_l := Nat.lt_of_lt_of_le aA_l hz10
    replace x0_l := Nat.lt_of_lt_of_le x0_l hz10
    go_region_held3 (fun w' => w'.cell? ⟨w8.heap.size, 0, none⟩ = some (.int .i64 q) ∧ w'.cell? ⟨w8.heap.size, 1, none⟩ = some (.slice At2 n ct2) ∧ w'.cell? ⟨W.heap.size + 1, 0, none⟩ = some (.int .i64 k) ∧ w'.cell? ⟨W.heap.size + 1, 1, none⟩ = some (.int .i64 ch)) ((go_split_ands; (repeat' apply And.intro) <;> (first | assumption))) (first | (go_at_call 28; refine (laws_toAcc k ch w9.drew).mono ?_; rintro e w11 ⟨rfl, hb⟩; have he11 : Eff 0 0 w9.drew w11 := Eff.of hb; have hz11 : w9.drew.heap.size ≤ w11.heap.size := he11.size; have b11 : Below W.heap.size W w11 := b10.trans (he11.below b10.size (by omega)); replace hr := (hr.below (he11.below (B := W.heap.size) (by omega) (by omega)) (Nat.le_refl _)); replace t2 := Own.keep t2 he11 (by omega); replace aS_0 := he11.cell aS_0 (by simp only; omega); replace aS_1 := he11.cell aS_1 (by simp only; omega); replace aA_0 := he11.cell aA_0 (by simp only; omega); replace aA_1 := he11.cell aA_1 (by simp only; omega); replace x0_0 := he11.cell x0_0 (by simp only; omega); replace x0_1 := he11.cell x0_1 (by simp only; omega); replace aS_l := Nat.lt_of_lt_of_le aS_l hz11; replace aA_l := Nat.lt_of_lt_of_le aA_l hz11; replace x0_l := Nat.lt_of_lt_of_le x0_l hz11; clear hb) | (go_at_call 29; refine (impl_Balance q _ n _ ls k ch w11 (Own.rd t2 (by omega)) (by omega)).mono ?_; rintro e w12 ⟨rfl, hb⟩; have he12 : Eff 0 0 w11 w12 := Eff.of hb; have hz12 : w11.heap.size ≤ w12.heap.size := he12.size; have b12 : Below W.heap.size W w12 := b11.trans (he12.below b11.size (by omega)); replace hr := (hr.below (he12.below (B := W.heap.size) (by omega) (by omega)) (Nat.le_refl _)); replace t2 := Own.keep t2 he12 (by omega); replace aS_0 := he12.cell aS_0 (by simp only; omega); replace aS_1 := he12.cell aS_1 (by simp only; omega); replace aA_0 := he12.cell aA_0 (by simp only; omega); replace aA_1 := he12.cell aA_1 (by simp only; omega); replace x0_0 := he12.cell x0_0 (by simp only; omega); replace x0_1 := he12.cell x0_1 (by simp only; omega); replace aS_l := Nat.lt_of_lt_of_le aS_l hz12; replace aA_l := Nat.lt_of_lt_of_le aA_l hz12; replace x0_l := Nat.lt_of_lt_of_le x0_l hz12; clear hb; rw [HV.out]))
    go_wp2_with fail
    have he13 : Eff 0 0 w12 w12.drew := (Eff.refl _ _ _).drew
    have hz13 : w12.heap.size ≤ w12.drew.heap.size := he13.size
    have b13 : Below W.heap.size W w12.drew := b12.trans (he13.below b12.size (by omega))
    replace hr := (hr.below (he13.below (B := W.heap.size) (by omega) (by omega)) (Nat.le_refl _))
    replace t2 := Own.keep t2 he13 (by omega)
    replace aS_0 := he13.cell aS_0 (by simp only; omega)
    replace aS_1 := he13.cell aS_1 (by simp only; omega)
    replace aA_0 := he13.cell aA_0 (by simp only; omega)
    replace aA_1 := he13.cell aA_1 (by simp only; omega)
    replace x0_0 := he13.cell x0_0 (by simp only; omega)
    replace x0_1 := he13.cell x0_1 (by simp only; omega)
    replace aS_l := Nat.lt_of_lt_of_le aS_l hz13
    replace aA_l := Nat.lt_of_lt_of_le aA_l hz13
    replace x0_l := Nat.lt_of_lt_of_le x0_l hz13
    go_region_held3 (fun w' => w'.cell? ⟨W.heap.size, 0, none⟩ = some (.int .i64 q) ∧ w'.cell? ⟨W.heap.size, 1, none⟩ = some (.slice A n c) ∧ w'.cell? ⟨w8.heap.size, 0, none⟩ = some (.int .i64 q) ∧ w'.cell? ⟨w8.heap.size, 1, none⟩ = some (.slice At2 n ct2)) ((go_split_ands; (repeat' apply And.intro) <;> (first | assumption))) (first | (go_at_call 19; refine (toLedger_any q A n c ls w12.drew (hr.more (by omega)) (by omega)).mono ?_; rintro e w14 ⟨At3, ct3, rfl, t3, hb⟩; have he14 : Eff 0 0 w12.drew w14 := Eff.of hb; have hz14 : w12.drew.heap.size ≤ w14.heap.size := he14.size; have b14 : Below W.heap.size W w14 := b13.trans (he14.below b13.size (by omega)); replace hr := (hr.below (he14.below (B := W.heap.size) (by omega) (by omega)) (Nat.le_refl _)); replace t2 := Own.keep t2 he14 (by omega); replace aS_0 := he14.cell aS_0 (by simp only; omega); replace aS_1 := he14.cell aS_1 (by simp only; omega); replace aA_0 := he14.cell aA_0 (by simp only; omega); replace aA_1 := he14.cell aA_1 (by simp only; omega); replace x0_0 := he14.cell x0_0 (by simp only; omega); replace x0_1 := he14.cell x0_1 (by simp only; omega); replace aS_l := Nat.lt_of_lt_of_le aS_l hz14; replace aA_l := Nat.lt_of_lt_of_le aA_l hz14; replace x0_l := Nat.lt_of_lt_of_le x0_l hz14; clear hb) | (go_at_call 21; refine (eqLedger_same q _ n _ _ n _ ls w14 (Own.rd t2 (by omega)) (Own.rd t3 (by omega)) (by omega)).mono ?_; rintro e w15 ⟨rfl, hb⟩; have he15 : Eff 0 0 w14 w15 := Eff.of hb; have hz15 : w14.heap.size ≤ w15.heap.size := he15.size; have b15 : Below W.heap.size W w15 := b14.trans (he15.below b14.size (by omega)); replace hr := (hr.below (he15.below (B := W.heap.size) (by omega) (by omega)) (Nat.le_refl _)); replace t2 := Own.keep t2 he15 (by omega); replace t3 := Own.keep t3 he15 (by omega); replace aS_0 := he15.cell aS_0 (by simp only; omega); replace aS_1 := he15.cell aS_1 (by simp only; omega); replace aA_0 := he15.cell aA_0 (by simp only; omega); replace aA_1 := he15.cell aA_1 (by simp only; omega); replace x0_0 := he15.cell x0_0 (by simp only; omega); replace x0_1 := he15.cell x0_1 (by simp only; omega); replace aS_l := Nat.lt_of_lt_of_le aS_l hz15; replace aA_l := Nat.lt_of_lt_of_le aA_l hz15; replace x0_l := Nat.lt_of_lt_of_le x0_l hz15; clear hb))
    go_wp2_with fail
    go_ret
    exact ⟨rfl, b15⟩
end Go.Proofs.Ytgjphejmppehjaa
