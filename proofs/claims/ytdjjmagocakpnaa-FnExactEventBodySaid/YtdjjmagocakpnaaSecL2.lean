/- The walk of the law on SectorBytes. -/
import Derived.Test.YtdjjmagocakpnaaSecB
import Derived.Deep.RegionHeld3
namespace Go.Proofs.Ytdjjmagocakpnaa
open Go.RowKit
set_option maxHeartbeats 4000000 in
set_option maxRecDepth 100000 in
theorem walk_FnExactSectorBytes (q p : Int) (_wq : (Lit.int .i64 q).wf = true) (_wp : (Lit.int .i64 p).wf = true) (A : Option Addr) (n c : Nat) (l : List UInt8) (W : World) (_hnc : n ≤ c) (_hm : c ≤ maxLen) (hr : Rd W W.heap.size 1 A n (Lib.byteCells l)) :
    Calls Try.prog 8 #[.agg #[.int .i64 q, .int .i64 p, .slice A n c]] W fun e w' => e = .returned (.bool true) ∧ Below W.heap.size W w' := by
  by_cases hn1 : 1048576 < n
  · go_enter Try.func8, Try.ntmps8
    go_wp2_with (go_at_call 19; refine (szSector_any q p A n c 1048576 (by unfold maxLen at _hm; omega) (by omega) _).mono ?_; rintro e w1 ⟨rfl, hb1⟩; rw [if_pos (by omega)])
    go_ret
    exact ⟨rfl, (below1 _ _).trans (hb1.mono (by simp))⟩
  · have hn : n ≤ 1048576 := by omega
    clear hn1
    obtain ⟨ok, hok⟩ : ∃ ok, secOk q p n = ok := ⟨_, rfl⟩
    obtain ⟨N, hN⟩ : ∃ N, (if secOk q p n then 128 else 0) = N := ⟨_, rfl⟩
    obtain ⟨L, hL⟩ : ∃ L, (if secOk q p n then secBytes q.toNat p.toNat n l else []) = L := ⟨_, rfl⟩
    have hNb : N ≤ 128 := by rw [← hN]; split <;> omega
    have HN := Lib.hid hN
    have HL := Lib.hid hL
    have hbb : (secOk q p n != secOk q p n) = false := by simp
    clear hN hL hok
    go_enter Try.func8, Try.ntmps8
    go_wp2_with fail
    have he1 : Eff 0 0 W (W.alloc (.cells #[.int .i64 q, .int .i64 p, .slice A n c] 29)) := Eff.alloc _ _
    have hs1 : (W.alloc (.cells #[.int .i64 q, .int .i64 p, .slice A n c] 29)).heap.size = W.heap.size + 1 := (by simp)
    have aS_0 : (W.alloc (.cells #[.int .i64 q, .int .i64 p, .slice A n c] 29)).cell? ⟨W.heap.size, 0, none⟩ = some (.int .i64 q) := var_cell _ _ _ _ _ rfl
    have aS_1 : (W.alloc (.cells #[.int .i64 q, .int .i64 p, .slice A n c] 29)).cell? ⟨W.heap.size, 1, none⟩ = some (.int .i64 p) := var_cell _ _ _ _ _ rfl
    have aS_2 : (W.alloc (.cells #[.int .i64 q, .int .i64 p, .slice A n c] 29)).cell? ⟨W.heap.size, 2, none⟩ = some (.slice A n c) := var_cell _ _ _ _ _ rfl
    generalize (W.alloc (.cells #[.int .i64 q, .int .i64 p, .slice A n c] 29)) = w1 at *
    have hz1 : W.heap.size ≤ w1.heap.size := he1.size
    have b1 : Below W.heap.size W w1 := he1.below (Nat.le_refl _) (by omega)
    replace hr := (hr.below (he1.below (B := W.heap.size) (by omega) (by omega)) (Nat.le_refl _))
    have aS_l : W.heap.size < w1.heap.size := (by omega)
    refine (szSector_any q p A n c 1048576 (by omega) (by omega) w1).mono ?_
    rintro e w2 ⟨rfl, hb⟩
    have he2 : Eff 0 0 w1 w2 := Eff.of hb
    have hz2 : w1.heap.size ≤ w2.heap.size := he2.size
    have b2 : Below W.heap.size W w2 := b1.trans (he2.below b1.size (by omega))
    replace hr := (hr.below (he2.below (B := W.heap.size) (by omega) (by omega)) (Nat.le_refl _))
    replace aS_0 := he2.cell aS_0 (by simp only; omega)
    replace aS_1 := he2.cell aS_1 (by simp only; omega)
    replace aS_2 := he2.cell aS_2 (by simp only; omega)
    replace aS_l := Nat.lt_of_lt_of_le aS_l hz2
    clear hb
    rw [if_neg (by omega)]
    go_wp2_with fail
    refine (toSector_any q p A n c l w2 (hr.more (by omega)) (by omega)).mono ?_
    rintro e w3 ⟨At1, ct1, rfl, t1, hb⟩
    have he3 : Eff 0 0 w2 w3 := Eff.of hb
    have hz3 : w2.heap.size ≤ w3.heap.size := he3.size
    have b3 : Below W.heap.size W w3 := b2.trans (he3.below b2.size (by omega))
    replace hr := (hr.below (he3.below (B := W.heap.size) (by omega) (by omega)) (Nat.le_refl _))
    replace aS_0 := he3.cell aS_0 (by simp only; omega)
    replace aS_1 := he3.cell aS_1 (by simp only; omega)
    replace aS_2 := he3.cell aS_2 (by simp only; omega)
    replace aS_l := Nat.lt_of_lt_of_le aS_l hz3
    clear hb
    go_wp2_with fail
    refine (spec_SectorBytes q p _ n _ l (by omega) w3 (t1.rd (by omega))).mono ?_
    rintro e w4 hpost
    obtain ⟨Ag, cg, rfl, g, hb⟩ := hpost.get HN.out HL.out
    clear hpost
    have he4 : Eff 0 0 w3 w4 := Eff.of hb
    have hz4 : w3.heap.size ≤ w4.heap.size := he4.size
    have b4 : Below W.heap.size W w4 := b3.trans (he4.below b3.size (by omega))
    replace hr := (hr.below (he4.below (B := W.heap.size) (by omega) (by omega)) (Nat.le_refl _))
    replace t1 := t1.keep he4 (by omega)
    replace aS_0 := he4.cell aS_0 (by simp only; omega)
    replace aS_1 := he4.cell aS_1 (by simp only; omega)
    replace aS_2 := he4.cell aS_2 (by simp only; omega)
    replace aS_l := Nat.lt_of_lt_of_le aS_l hz4
    clear hb
    clear t1
    go_wp2_with fail
    refine (toSector_any q p A n c l w4 (hr.more (by omega)) (by omega)).mono ?_
    rintro e w5 ⟨At2, ct2, rfl, t2, hb⟩
    have he5 : Eff 0 0 w4 w5 := Eff.of hb
    have hz5 : w4.heap.size ≤ w5.heap.size := he5.size
    have b5 : Below W.heap.size W w5 := b4.trans (he5.below b4.size (by omega))
    replace hr := (hr.below (he5.below (B := W.heap.size) (by omega) (by omega)) (Nat.le_refl _))
    replace g := g.keep he5 (by omega)
    replace aS_0 := he5.cell aS_0 (by simp only; omega)
    replace aS_1 := he5.cell aS_1 (by simp only; omega)
    replace aS_2 := he5.cell aS_2 (by simp only; omega)
    replace aS_l := Nat.lt_of_lt_of_le aS_l hz5
    clear hb
    go_wp2_with fail
    have he6 : Eff 0 0 w5 (w5.alloc (.cells #[.int .i64 q, .int .i64 p, .slice At2 n ct2] 32)) := Eff.alloc _ _
    have hs6 : (w5.alloc (.cells #[.int .i64 q, .int .i64 p, .slice At2 n ct2] 32)).heap.size = w5.heap.size + 1 := (by simp)
    have x0_0 : (w5.alloc (.cells #[.int .i64 q, .int .i64 p, .slice At2 n ct2] 32)).cell? ⟨w5.heap.size, 0, none⟩ = some (.int .i64 q) := var_cell _ _ _ _ _ rfl
    have x0_1 : (w5.alloc (.cells #[.int .i64 q, .int .i64 p, .slice At2 n ct2] 32)).cell? ⟨w5.heap.size, 1, none⟩ = some (.int .i64 p) := var_cell _ _ _ _ _ rfl
    have x0_2 : (w5.alloc (.cells #[.int .i64 q, .int .i64 p, .slice At2 n ct2] 32)).cell? ⟨w5.heap.size, 2, none⟩ = some (.slice At2 n ct2) := var_cell _ _ _ _ _ rfl
    generalize (w5.alloc (.cells #[.int .i64 q, .int .i64 p, .slice At2 n ct2] 32)) = w6 at *
    have hz6 : w5.heap.size ≤ w6.heap.size := he6.size
    have b6 : Below W.heap.size W w6 := b5.trans (he6.below b5.size (by omega))
    replace hr := (hr.below (he6.below (B := W.heap.size) (by omega) (by omega)) (Nat.le_refl _))
    replace g := g.keep he6 (by omega)
    replace t2 := t2.keep he6 (by omega)
    replace aS_0 := he6.cell aS_0 (by simp only; omega)
    replace aS_1 := he6.cell aS_1 (by simp only; omega)
    replace aS_2 := he6.cell aS_2 (by simp only; omega)
    replace aS_l := Nat.lt_of_lt_of_le aS_l hz6
    have x0_l : w5.heap.size < w6.heap.size := (by omega)
    refine (impl_SectorBytes q p _ n _ l (by omega) w6 (t2.rd (by omega))).mono ?_
    rintro e w7 hpost
    obtain ⟨Ah, ch, rfl, h, hb⟩ := hpost.get HN.out HL.out
    clear hpost
    have he7 : Eff 0 0 w6 w7 := Eff.of hb
    have hz7 : w6.heap.size ≤ w7.heap.size := he7.size
    have b7 : Below W.heap.size W w7 := b6.trans (he7.below b6.size (by omega))
    replace hr := (hr.below (he7.below (B := W.heap.size) (by omega) (by omega)) (Nat.le_refl _))
    replace g := g.keep he7 (by omega)
    replace t2 := t2.keep he7 (by omega)
    replace aS_0 := he7.cell aS_0 (by simp only; omega)
    replace aS_1 := he7.cell aS_1 (by simp only; omega)
    replace aS_2 := he7.cell aS_2 (by simp only; omega)
    replace x0_0 := he7.cell x0_0 (by simp only; omega)
    replace x0_1 := he7.cell x0_1 (by simp only; omega)
    replace x0_2 := he7.cell x0_2 (by simp only; omega)
    replace aS_l := Nat.lt_of_lt_of_le aS_l hz7
    replace x0_l := Nat.lt_of_lt_of_le x0_l hz7
    clear hb
    go_wp2_with fail
    refine (eqByteS_any _ _ _ L _ _ _ L w7 (h.rd (by omega)) (g.rd (by omega)) (by omega) (by omega)).mono ?_
    rintro e w8 ⟨rfl, hb⟩
    have he8 : Eff 0 0 w7 w8 := Eff.of hb
    have hz8 : w7.heap.size ≤ w8.heap.size := he8.size
    have b8 : Below W.heap.size W w8 := b7.trans (he8.below b7.size (by omega))
    replace hr := (hr.below (he8.below (B := W.heap.size) (by omega) (by omega)) (Nat.le_refl _))
    replace g := g.keep he8 (by omega)
    replace t2 := t2.keep he8 (by omega)
    replace h := h.keep he8 (by omega)
    replace aS_0 := he8.cell aS_0 (by simp only; omega)
    replace aS_1 := he8.cell aS_1 (by simp only; omega)
    replace aS_2 := he8.cell aS_2 (by simp only; omega)
    replace x0_0 := he8.cell x0_0 (by simp only; omega)
    replace x0_1 := he8.cell x0_1 (by simp only; omega)
    replace x0_2 := he8.cell x0_2 (by simp only; omega)
    replace aS_l := Nat.lt_of_lt_of_le aS_l hz8
    replace x0_l := Nat.lt_of_lt_of_le x0_l hz8
    clear hb
    rw [eqL_self]
    go_wp2_with fail
    have he9 : Eff 0 0 w8 w8.drew := (Eff.refl _ _ _).drew
    have hz9 : w8.heap.size ≤ w8.drew.heap.size := he9.size
    have b9 : Below W.heap.size W w8.drew := b8.trans (he9.below b8.size (by omega))
    replace hr := (hr.below (he9.below (B := W.heap.size) (by omega) (by omega)) (Nat.le_refl _))
    replace g := g.keep he9 (by omega)
    replace t2 := t2.keep he9 (by omega)
    replace h := h.keep he9 (by omega)
    replace aS_0 := he9.cell aS_0 (by simp only; omega)
    replace aS_1 := he9.cell aS_1 (by simp only; omega)
    replace aS_2 := he9.cell aS_2 (by simp only; omega)
    replace x0_0 := he9.cell x0_0 (by simp only; omega)
    replace x0_1 := he9.cell x0_1 (by simp only; omega)
    replace x0_2 := he9.cell x0_2 (by simp only; omega)
    replace aS_l := Nat.lt_of_lt_of_le aS_l hz9
    replace x0_l := Nat.lt_of_lt_of_le x0_l hz9
    go_region_held3 (fun w' => w'.cell? ⟨W.heap.size, 0, none⟩ = some (.int .i64 q) ∧ w'.cell? ⟨W.heap.size, 1, none⟩ = some (.int .i64 p) ∧ w'.cell? ⟨W.heap.size, 2, none⟩ = some (.slice A n c) ∧ w'.cell? ⟨w5.heap.size, 0, none⟩ = some (.int .i64 q) ∧ w'.cell? ⟨w5.heap.size, 1, none⟩ = some (.int .i64 p) ∧ w'.cell? ⟨w5.heap.size, 2, none⟩ = some (.slice At2 n ct2)) ((go_split_ands; (repeat' apply And.intro) <;> (first | assumption))) (first | (go_at_call 21; refine (toSector_any q p A n c l w8.drew (hr.more (by omega)) (by omega)).mono ?_; rintro e w10 ⟨At3, ct3, rfl, t3, hb⟩; have he10 : Eff 0 0 w8.drew w10 := Eff.of hb; have hz10 : w8.drew.heap.size ≤ w10.heap.size := he10.size; have b10 : Below W.heap.size W w10 := b9.trans (he10.below b9.size (by omega)); replace hr := (hr.below (he10.below (B := W.heap.size) (by omega) (by omega)) (Nat.le_refl _)); replace g := g.keep he10 (by omega); replace t2 := t2.keep he10 (by omega); replace h := h.keep he10 (by omega); replace aS_0 := he10.cell aS_0 (by simp only; omega); replace aS_1 := he10.cell aS_1 (by simp only; omega); replace aS_2 := he10.cell aS_2 (by simp only; omega); replace x0_0 := he10.cell x0_0 (by simp only; omega); replace x0_1 := he10.cell x0_1 (by simp only; omega); replace x0_2 := he10.cell x0_2 (by simp only; omega); replace aS_l := Nat.lt_of_lt_of_le aS_l hz10; replace x0_l := Nat.lt_of_lt_of_le x0_l hz10; clear hb) | (go_at_call 23; refine (eqSector_same q p _ n _ _ n _ l w10 (t2.rd (by omega)) (t3.rd (by omega)) (by omega) (by omega)).mono ?_; rintro e w11 ⟨rfl, hb⟩; have he11 : Eff 0 0 w10 w11 := Eff.of hb; have hz11 : w10.heap.size ≤ w11.heap.size := he11.size; have b11 : Below W.heap.size W w11 := b10.trans (he11.below b10.size (by omega)); replace hr := (hr.below (he11.below (B := W.heap.size) (by omega) (by omega)) (Nat.le_refl _)); replace g := g.keep he11 (by omega); replace t2 := t2.keep he11 (by omega); replace h := h.keep he11 (by omega); replace t3 := t3.keep he11 (by omega); replace aS_0 := he11.cell aS_0 (by simp only; omega); replace aS_1 := he11.cell aS_1 (by simp only; omega); replace aS_2 := he11.cell aS_2 (by simp only; omega); replace x0_0 := he11.cell x0_0 (by simp only; omega); replace x0_1 := he11.cell x0_1 (by simp only; omega); replace x0_2 := he11.cell x0_2 (by simp only; omega); replace aS_l := Nat.lt_of_lt_of_le aS_l hz11; replace x0_l := Nat.lt_of_lt_of_le x0_l hz11; clear hb))
    clear t3
    go_wp2_with fail
    refine (markSector_1 q p _ n _ l _ _ w11 t2 (by omega)).mono ?_
    rintro e w12 ⟨rfl, t2, he⟩
    have he12 : Eff (w4.heap.size) (w5.heap.size) w11 w12 := he
    have hz12 : w11.heap.size ≤ w12.heap.size := he12.size
    have b12 : Below W.heap.size W w12 := b11.trans (he12.below b11.size (by omega))
    replace hr := (hr.below (he12.below (B := W.heap.size) (by omega) (by omega)) (Nat.le_refl _))
    replace g := g.keep he12 (by omega)
    replace h := h.keep he12 (by omega)
    replace aS_0 := he12.cell aS_0 (by simp only; omega)
    replace aS_1 := he12.cell aS_1 (by simp only; omega)
    replace aS_2 := he12.cell aS_2 (by simp only; omega)
    replace x0_0 := he12.cell x0_0 (by simp only; omega)
    replace x0_1 := he12.cell x0_1 (by simp only; omega)
    replace x0_2 := he12.cell x0_2 (by simp only; omega)
    replace aS_l := Nat.lt_of_lt_of_le aS_l hz12
    replace x0_l := Nat.lt_of_lt_of_le x0_l hz12
    clear he
    go_wp2_with fail
    refine (eqByteS_any _ _ _ L _ _ _ L w12 (h.rd (by omega)) (g.rd (by omega)) (by omega) (by omega)).mono ?_
    rintro e w13 ⟨rfl, hb⟩
    have he13 : Eff 0 0 w12 w13 := Eff.of hb
    have hz13 : w12.heap.size ≤ w13.heap.size := he13.size
    have b13 : Below W.heap.size W w13 := b12.trans (he13.below b12.size (by omega))
    replace hr := (hr.below (he13.below (B := W.heap.size) (by omega) (by omega)) (Nat.le_refl _))
    replace g := g.keep he13 (by omega)
    replace t2 := t2.keep he13 (by omega)
    replace h := h.keep he13 (by omega)
    replace aS_0 := he13.cell aS_0 (by simp only; omega)
    replace aS_1 := he13.cell aS_1 (by simp only; omega)
    replace aS_2 := he13.cell aS_2 (by simp only; omega)
    replace x0_0 := he13.cell x0_0 (by simp only; omega)
    replace x0_1 := he13.cell x0_1 (by simp only; omega)
    replace x0_2 := he13.cell x0_2 (by simp only; omega)
    replace aS_l := Nat.lt_of_lt_of_le aS_l hz13
    replace x0_l := Nat.lt_of_lt_of_le x0_l hz13
    clear hb
    rw [eqL_self]
    go_wp2_with fail
    refine (markByteS_1 _ _ _ L _ _ w13 h (by omega)).mono ?_
    rintro e w14 ⟨rfl, h, he⟩
    have he14 : Eff (w6.heap.size) (w7.heap.size) w13 w14 := he
    have hz14 : w13.heap.size ≤ w14.heap.size := he14.size
    have b14 : Below W.heap.size W w14 := b13.trans (he14.below b13.size (by omega))
    replace hr := (hr.below (he14.below (B := W.heap.size) (by omega) (by omega)) (Nat.le_refl _))
    replace g := g.keep he14 (by omega)
    replace t2 := t2.keep he14 (by omega)
    replace aS_0 := he14.cell aS_0 (by simp only; omega)
    replace aS_1 := he14.cell aS_1 (by simp only; omega)
    replace aS_2 := he14.cell aS_2 (by simp only; omega)
    replace x0_0 := he14.cell x0_0 (by simp only; omega)
    replace x0_1 := he14.cell x0_1 (by simp only; omega)
    replace x0_2 := he14.cell x0_2 (by simp only; omega)
    replace aS_l := Nat.lt_of_lt_of_le aS_l hz14
    replace x0_l := Nat.lt_of_lt_of_le x0_l hz14
    clear he
    go_wp2_with fail
    refine (heldByteS_1 _ _ _ w14 (h.rd (by omega)) (by omega)).mono ?_
    rintro e w15 ⟨rfl, hb⟩
    have he15 : Eff 0 0 w14 w15 := Eff.of hb
    have hz15 : w14.heap.size ≤ w15.heap.size := he15.size
    have b15 : Below W.heap.size W w15 := b14.trans (he15.below b14.size (by omega))
    replace hr := (hr.below (he15.below (B := W.heap.size) (by omega) (by omega)) (Nat.le_refl _))
    replace g := g.keep he15 (by omega)
    replace t2 := t2.keep he15 (by omega)
    replace h := h.keep he15 (by omega)
    replace aS_0 := he15.cell aS_0 (by simp only; omega)
    replace aS_1 := he15.cell aS_1 (by simp only; omega)
    replace aS_2 := he15.cell aS_2 (by simp only; omega)
    replace x0_0 := he15.cell x0_0 (by simp only; omega)
    replace x0_1 := he15.cell x0_1 (by simp only; omega)
    replace x0_2 := he15.cell x0_2 (by simp only; omega)
    replace aS_l := Nat.lt_of_lt_of_le aS_l hz15
    replace x0_l := Nat.lt_of_lt_of_le x0_l hz15
    clear hb
    go_wp2_with fail
    refine (toSector_any q p A n c l w15 (hr.more (by omega)) (by omega)).mono ?_
    rintro e w16 ⟨At4, ct4, rfl, t4, hb⟩
    have he16 : Eff 0 0 w15 w16 := Eff.of hb
    have hz16 : w15.heap.size ≤ w16.heap.size := he16.size
    have b16 : Below W.heap.size W w16 := b15.trans (he16.below b15.size (by omega))
    replace hr := (hr.below (he16.below (B := W.heap.size) (by omega) (by omega)) (Nat.le_refl _))
    replace g := g.keep he16 (by omega)
    replace t2 := t2.keep he16 (by omega)
    replace h := h.keep he16 (by omega)
    replace aS_0 := he16.cell aS_0 (by simp only; omega)
    replace aS_1 := he16.cell aS_1 (by simp only; omega)
    replace aS_2 := he16.cell aS_2 (by simp only; omega)
    replace x0_0 := he16.cell x0_0 (by simp only; omega)
    replace x0_1 := he16.cell x0_1 (by simp only; omega)
    replace x0_2 := he16.cell x0_2 (by simp only; omega)
    replace aS_l := Nat.lt_of_lt_of_le aS_l hz16
    replace x0_l := Nat.lt_of_lt_of_le x0_l hz16
    clear hb
    go_wp2_with fail
    refine (impl_SectorBytes q p _ n _ l (by omega) w16 (t4.rd (by omega))).mono ?_
    rintro e w17 hpost
    obtain ⟨Ak, ck, rfl, k, hb⟩ := hpost.get HN.out HL.out
    clear hpost
    have he17 : Eff 0 0 w16 w17 := Eff.of hb
    have hz17 : w16.heap.size ≤ w17.heap.size := he17.size
    have b17 : Below W.heap.size W w17 := b16.trans (he17.below b16.size (by omega))
    replace hr := (hr.below (he17.below (B := W.heap.size) (by omega) (by omega)) (Nat.le_refl _))
    replace g := g.keep he17 (by omega)
    replace t2 := t2.keep he17 (by omega)
    replace h := h.keep he17 (by omega)
    replace t4 := t4.keep he17 (by omega)
    replace aS_0 := he17.cell aS_0 (by simp only; omega)
    replace aS_1 := he17.cell aS_1 (by simp only; omega)
    replace aS_2 := he17.cell aS_2 (by simp only; omega)
    replace x0_0 := he17.cell x0_0 (by simp only; omega)
    replace x0_1 := he17.cell x0_1 (by simp only; omega)
    replace x0_2 := he17.cell x0_2 (by simp only; omega)
    replace aS_l := Nat.lt_of_lt_of_le aS_l hz17
    replace x0_l := Nat.lt_of_lt_of_le x0_l hz17
    clear hb
    go_wp2_with fail
    refine (eqByteS_any _ _ _ L _ _ _ L w17 (k.rd (by omega)) (g.rd (by omega)) (by omega) (by omega)).mono ?_
    rintro e w18 ⟨rfl, hb⟩
    have he18 : Eff 0 0 w17 w18 := Eff.of hb
    have hz18 : w17.heap.size ≤ w18.heap.size := he18.size
    have b18 : Below W.heap.size W w18 := b17.trans (he18.below b17.size (by omega))
    replace hr := (hr.below (he18.below (B := W.heap.size) (by omega) (by omega)) (Nat.le_refl _))
    replace g := g.keep he18 (by omega)
    replace t2 := t2.keep he18 (by omega)
    replace h := h.keep he18 (by omega)
    replace t4 := t4.keep he18 (by omega)
    replace k := k.keep he18 (by omega)
    replace aS_0 := he18.cell aS_0 (by simp only; omega)
    replace aS_1 := he18.cell aS_1 (by simp only; omega)
    replace aS_2 := he18.cell aS_2 (by simp only; omega)
    replace x0_0 := he18.cell x0_0 (by simp only; omega)
    replace x0_1 := he18.cell x0_1 (by simp only; omega)
    replace x0_2 := he18.cell x0_2 (by simp only; omega)
    replace aS_l := Nat.lt_of_lt_of_le aS_l hz18
    replace x0_l := Nat.lt_of_lt_of_le x0_l hz18
    clear hb
    rw [eqL_self]
    go_wp2_with fail
    refine (heldByteS_1 _ _ _ w18 (h.rd (by omega)) (by omega)).mono ?_
    rintro e w19 ⟨rfl, hb⟩
    have he19 : Eff 0 0 w18 w19 := Eff.of hb
    have hz19 : w18.heap.size ≤ w19.heap.size := he19.size
    have b19 : Below W.heap.size W w19 := b18.trans (he19.below b18.size (by omega))
    replace hr := (hr.below (he19.below (B := W.heap.size) (by omega) (by omega)) (Nat.le_refl _))
    replace g := g.keep he19 (by omega)
    replace t2 := t2.keep he19 (by omega)
    replace h := h.keep he19 (by omega)
    replace t4 := t4.keep he19 (by omega)
    replace k := k.keep he19 (by omega)
    replace aS_0 := he19.cell aS_0 (by simp only; omega)
    replace aS_1 := he19.cell aS_1 (by simp only; omega)
    replace aS_2 := he19.cell aS_2 (by simp only; omega)
    replace x0_0 := he19.cell x0_0 (by simp only; omega)
    replace x0_1 := he19.cell x0_1 (by simp only; omega)
    replace x0_2 := he19.cell x0_2 (by simp only; omega)
    replace aS_l := Nat.lt_of_lt_of_le aS_l hz19
    replace x0_l := Nat.lt_of_lt_of_le x0_l hz19
    clear hb
    go_wp2_with fail
    go_ret
    exact ⟨rfl, b19⟩
end Go.Proofs.Ytdjjmagocakpnaa
