/- The walk of the law on SectorRead. -/
import Derived.Test.YtdjjmagocakpnaaSecR3
import Derived.Deep.RegionHeld3
import Derived.Outline
namespace Go.Proofs.Ytdjjmagocakpnaa
open Go.RowKit
theorem SecR.get {l : List UInt8} {w w' : World} {e : Ending} (h : SecR l w e w') {gd : Bool} {q p m : Nat} {B : List UInt8} (h0 : secGood l = gd) (h1 : (if secGood l then rdQ l else 0) = q) (h2 : (if secGood l then rdP l else 0) = p) (h3 : (if secGood l then rdM l else 0) = m) (h4 : (if secGood l then rdB l else []) = B) :
    ∃ A c, e = .returned (.tuple #[.agg #[.int .i64 (q : Int), .int .i64 (p : Int), .slice A m c], .bool gd]) ∧ OwnB w' w.heap.size w'.heap.size A m c B ∧ Below w.heap.size w w' := by
  obtain ⟨A, c, he, ho, hb⟩ := h
  rw [h1, h2, h3, h0] at he
  rw [h3, h4] at ho
  exact ⟨A, c, he, ho, hb⟩
theorem rdM_lt (l : List UInt8) : (if secGood l then rdM l else 0) ≤ 255 := by
  have := (l.getD 7 0).toNat_lt
  unfold rdM
  split <;> omega
set_option maxHeartbeats 4000000 in
set_option maxRecDepth 100000 in
theorem walk_FnExactSectorRead (A : Option Addr) (n c : Nat) (l : List UInt8) (W : World) (_hnc : n ≤ c) (_hm : c ≤ maxLen) (hr : Rd W W.heap.size 1 A n (Lib.byteCells l)) :
    Calls Try.prog 11 #[.slice A n c] W fun e w' => e = .returned (.bool true) ∧ Below W.heap.size W w' := by
  by_cases hn1 : 1048576 < n
  · unfold maxLen at _hm
    go_enter Try.func11, Try.ntmps11
    go_wp2
    go_ret
    exact ⟨rfl, Below.refl _ _⟩
  · have hn : n ≤ 1048576 := by omega
    clear hn1
    obtain ⟨gd, hG⟩ : ∃ x, secGood l = x := ⟨_, rfl⟩
    obtain ⟨q, hQ⟩ : ∃ x, (if secGood l then rdQ l else 0) = x := ⟨_, rfl⟩
    obtain ⟨p, hP⟩ : ∃ x, (if secGood l then rdP l else 0) = x := ⟨_, rfl⟩
    obtain ⟨m, hM⟩ : ∃ x, (if secGood l then rdM l else 0) = x := ⟨_, rfl⟩
    obtain ⟨B, hB⟩ : ∃ x, (if secGood l then rdB l else []) = x := ⟨_, rfl⟩
    have hmb : m ≤ 255 := by rw [← hM]; exact rdM_lt l
    have HG := Lib.hid hG
    have HQ := Lib.hid hQ
    have HP := Lib.hid hP
    have HM := Lib.hid hM
    have HB := Lib.hid hB
    have hbb : (gd != gd) = false := by simp
    clear hG hQ hP hM hB
    go_enter Try.func11, Try.ntmps11
    go_wp2_with fail
    refine (toByteS_any A n c l W (hr.more (by omega)) (by omega)).mono ?_
    rintro e w1 ⟨At1, ct1, rfl, t1, hb⟩
    have he1 : Eff 0 0 W w1 := Eff.of hb
    have hz1 : W.heap.size ≤ w1.heap.size := he1.size
    have b1 : Below W.heap.size W w1 := he1.below (Nat.le_refl _) (by omega)
    replace hr := (hr.below (he1.below (B := W.heap.size) (by omega) (by omega)) (Nat.le_refl _))
    clear hb
    go_wp2_with fail
    refine (spec_SectorRead _ n _ l t1.row_le (Own.caps t1).2 (by omega) w1 (t1.rd (by omega))).mono ?_
    rintro e w2 hpost
    obtain ⟨Ag, cg, rfl, g, hb⟩ := hpost.get HG.out HQ.out HP.out HM.out HB.out
    clear hpost
    have he2 : Eff 0 0 w1 w2 := Eff.of hb
    have hz2 : w1.heap.size ≤ w2.heap.size := he2.size
    have b2 : Below W.heap.size W w2 := b1.trans (he2.below b1.size (by omega))
    replace hr := (hr.below (he2.below (B := W.heap.size) (by omega) (by omega)) (Nat.le_refl _))
    replace t1 := t1.keep he2 (by omega)
    clear hb
    clear t1
    go_wp2_with fail
    have he3 : Eff 0 0 w2 (w2.alloc (.cells #[.int .i64 (q : Int), .int .i64 (p : Int), .slice Ag m cg] 32)) := Eff.alloc _ _
    have hs3 : (w2.alloc (.cells #[.int .i64 (q : Int), .int .i64 (p : Int), .slice Ag m cg] 32)).heap.size = w2.heap.size + 1 := (by simp)
    have G_0 : (w2.alloc (.cells #[.int .i64 (q : Int), .int .i64 (p : Int), .slice Ag m cg] 32)).cell? ⟨w2.heap.size, 0, none⟩ = some (.int .i64 (q : Int)) := var_cell _ _ _ _ _ rfl
    have G_1 : (w2.alloc (.cells #[.int .i64 (q : Int), .int .i64 (p : Int), .slice Ag m cg] 32)).cell? ⟨w2.heap.size, 1, none⟩ = some (.int .i64 (p : Int)) := var_cell _ _ _ _ _ rfl
    have G_2 : (w2.alloc (.cells #[.int .i64 (q : Int), .int .i64 (p : Int), .slice Ag m cg] 32)).cell? ⟨w2.heap.size, 2, none⟩ = some (.slice Ag m cg) := var_cell _ _ _ _ _ rfl
    generalize (w2.alloc (.cells #[.int .i64 (q : Int), .int .i64 (p : Int), .slice Ag m cg] 32)) = w3 at *
    have hz3 : w2.heap.size ≤ w3.heap.size := he3.size
    have b3 : Below W.heap.size W w3 := b2.trans (he3.below b2.size (by omega))
    replace hr := (hr.below (he3.below (B := W.heap.size) (by omega) (by omega)) (Nat.le_refl _))
    replace g := g.keep he3 (by omega)
    have G_l : w2.heap.size < w3.heap.size := (by omega)
    refine (toByteS_any A n c l w3 (hr.more (by omega)) (by omega)).mono ?_
    rintro e w4 ⟨At2, ct2, rfl, t2, hb⟩
    have he4 : Eff 0 0 w3 w4 := Eff.of hb
    have hz4 : w3.heap.size ≤ w4.heap.size := he4.size
    have b4 : Below W.heap.size W w4 := b3.trans (he4.below b3.size (by omega))
    replace hr := (hr.below (he4.below (B := W.heap.size) (by omega) (by omega)) (Nat.le_refl _))
    replace g := g.keep he4 (by omega)
    replace G_0 := he4.cell G_0 (by simp only; omega)
    replace G_1 := he4.cell G_1 (by simp only; omega)
    replace G_2 := he4.cell G_2 (by simp only; omega)
    replace G_l := Nat.lt_of_lt_of_le G_l hz4
    clear hb
    go_wp2_with fail
    refine (impl_SectorRead _ n _ l t2.row_le (Own.caps t2).2 w4 (t2.rd (by omega))).mono ?_
    rintro e w5 hpost
    obtain ⟨Ah, ch, rfl, h, hb⟩ := hpost.get HG.out HQ.out HP.out HM.out HB.out
    clear hpost
    have he5 : Eff 0 0 w4 w5 := Eff.of hb
    have hz5 : w4.heap.size ≤ w5.heap.size := he5.size
    have b5 : Below W.heap.size W w5 := b4.trans (he5.below b4.size (by omega))
    replace hr := (hr.below (he5.below (B := W.heap.size) (by omega) (by omega)) (Nat.le_refl _))
    replace g := g.keep he5 (by omega)
    replace t2 := t2.keep he5 (by omega)
    replace G_0 := he5.cell G_0 (by simp only; omega)
    replace G_1 := he5.cell G_1 (by simp only; omega)
    replace G_2 := he5.cell G_2 (by simp only; omega)
    replace G_l := Nat.lt_of_lt_of_le G_l hz5
    clear hb
    go_wp2_with fail
    have he6 : Eff 0 0 w5 (w5.alloc (.cells #[.int .i64 (q : Int), .int .i64 (p : Int), .slice Ah m ch] 32)) := Eff.alloc _ _
    have hs6 : (w5.alloc (.cells #[.int .i64 (q : Int), .int .i64 (p : Int), .slice Ah m ch] 32)).heap.size = w5.heap.size + 1 := (by simp)
    have H_0 : (w5.alloc (.cells #[.int .i64 (q : Int), .int .i64 (p : Int), .slice Ah m ch] 32)).cell? ⟨w5.heap.size, 0, none⟩ = some (.int .i64 (q : Int)) := var_cell _ _ _ _ _ rfl
    have H_1 : (w5.alloc (.cells #[.int .i64 (q : Int), .int .i64 (p : Int), .slice Ah m ch] 32)).cell? ⟨w5.heap.size, 1, none⟩ = some (.int .i64 (p : Int)) := var_cell _ _ _ _ _ rfl
    have H_2 : (w5.alloc (.cells #[.int .i64 (q : Int), .int .i64 (p : Int), .slice Ah m ch] 32)).cell? ⟨w5.heap.size, 2, none⟩ = some (.slice Ah m ch) := var_cell _ _ _ _ _ rfl
    generalize (w5.alloc (.cells #[.int .i64 (q : Int), .int .i64 (p : Int), .slice Ah m ch] 32)) = w6 at *
    have hz6 : w5.heap.size ≤ w6.heap.size := he6.size
    have b6 : Below W.heap.size W w6 := b5.trans (he6.below b5.size (by omega))
    replace hr := (hr.below (he6.below (B := W.heap.size) (by omega) (by omega)) (Nat.le_refl _))
    replace g := g.keep he6 (by omega)
    replace t2 := t2.keep he6 (by omega)
    replace h := h.keep he6 (by omega)
    replace G_0 := he6.cell G_0 (by simp only; omega)
    replace G_1 := he6.cell G_1 (by simp only; omega)
    replace G_2 := he6.cell G_2 (by simp only; omega)
    replace G_l := Nat.lt_of_lt_of_le G_l hz6
    have H_l : w5.heap.size < w6.heap.size := (by omega)
    refine (eqSector_same q p _ m _ _ m _ B w6 (h.rd (by omega)) (g.rd (by omega)) (by omega) (by omega)).mono ?_
    rintro e w7 ⟨rfl, hb⟩
    have he7 : Eff 0 0 w6 w7 := Eff.of hb
    have hz7 : w6.heap.size ≤ w7.heap.size := he7.size
    have b7 : Below W.heap.size W w7 := b6.trans (he7.below b6.size (by omega))
    replace hr := (hr.below (he7.below (B := W.heap.size) (by omega) (by omega)) (Nat.le_refl _))
    replace g := g.keep he7 (by omega)
    replace t2 := t2.keep he7 (by omega)
    replace h := h.keep he7 (by omega)
    replace G_0 := he7.cell G_0 (by simp only; omega)
    replace G_1 := he7.cell G_1 (by simp only; omega)
    replace G_2 := he7.cell G_2 (by simp only; omega)
    replace H_0 := he7.cell H_0 (by simp only; omega)
    replace H_1 := he7.cell H_1 (by simp only; omega)
    replace H_2 := he7.cell H_2 (by simp only; omega)
    replace G_l := Nat.lt_of_lt_of_le G_l hz7
    replace H_l := Nat.lt_of_lt_of_le H_l hz7
    clear hb
    go_wp2_with fail
    refine (toByteS_any A n c l w7 (hr.more (by omega)) (by omega)).mono ?_
    rintro e w8 ⟨At3, ct3, rfl, t3, hb⟩
    have he8 : Eff 0 0 w7 w8 := Eff.of hb
    have hz8 : w7.heap.size ≤ w8.heap.size := he8.size
    have b8 : Below W.heap.size W w8 := b7.trans (he8.below b7.size (by omega))
    replace hr := (hr.below (he8.below (B := W.heap.size) (by omega) (by omega)) (Nat.le_refl _))
    replace g := g.keep he8 (by omega)
    replace t2 := t2.keep he8 (by omega)
    replace h := h.keep he8 (by omega)
    replace G_0 := he8.cell G_0 (by simp only; omega)
    replace G_1 := he8.cell G_1 (by simp only; omega)
    replace G_2 := he8.cell G_2 (by simp only; omega)
    replace H_0 := he8.cell H_0 (by simp only; omega)
    replace H_1 := he8.cell H_1 (by simp only; omega)
    replace H_2 := he8.cell H_2 (by simp only; omega)
    replace G_l := Nat.lt_of_lt_of_le G_l hz8
    replace H_l := Nat.lt_of_lt_of_le H_l hz8
    clear hb
    go_wp2_with fail
    refine (eqByteS_any _ _ _ l _ _ _ l w8 (t2.rd (by omega)) (t3.rd (by omega)) (by omega) (by omega)).mono ?_
    rintro e w9 ⟨rfl, hb⟩
    have he9 : Eff 0 0 w8 w9 := Eff.of hb
    have hz9 : w8.heap.size ≤ w9.heap.size := he9.size
    have b9 : Below W.heap.size W w9 := b8.trans (he9.below b8.size (by omega))
    replace hr := (hr.below (he9.below (B := W.heap.size) (by omega) (by omega)) (Nat.le_refl _))
    replace g := g.keep he9 (by omega)
    replace t2 := t2.keep he9 (by omega)
    replace h := h.keep he9 (by omega)
    replace t3 := t3.keep he9 (by omega)
    replace G_0 := he9.cell G_0 (by simp only; omega)
    replace G_1 := he9.cell G_1 (by simp only; omega)
    replace G_2 := he9.cell G_2 (by simp only; omega)
    replace H_0 := he9.cell H_0 (by simp only; omega)
    replace H_1 := he9.cell H_1 (by simp only; omega)
    replace H_2 := he9.cell H_2 (by simp only; omega)
    replace G_l := Nat.lt_of_lt_of_le G_l hz9
    replace H_l := Nat.lt_of_lt_of_le H_l hz9
    clear hb
    rw [eqL_self]
    clear t3
    go_wp2_with fail
    refine (markByteS_1 _ _ _ l _ _ w9 t2 (by omega)).mono ?_
    rintro e w10 ⟨rfl, t2, he⟩
    have he10 : Eff (w3.heap.size) (w4.heap.size) w9 w10 := he
    have hz10 : w9.heap.size ≤ w10.heap.size := he10.size
    have b10 : Below W.heap.size W w10 := b9.trans (he10.below b9.size (by omega))
    replace hr := (hr.below (he10.below (B := W.heap.size) (by omega) (by omega)) (Nat.le_refl _))
    replace g := g.keep he10 (by omega)
    replace h := h.keep he10 (by omega)
    replace G_0 := he10.cell G_0 (by simp only; omega)
    replace G_1 := he10.cell G_1 (by simp only; omega)
    replace G_2 := he10.cell G_2 (by simp only; omega)
    replace H_0 := he10.cell H_0 (by simp only; omega)
    replace H_1 := he10.cell H_1 (by simp only; omega)
    replace H_2 := he10.cell H_2 (by simp only; omega)
    replace G_l := Nat.lt_of_lt_of_le G_l hz10
    replace H_l := Nat.lt_of_lt_of_le H_l hz10
    clear he
    go_wp2_with fail
    refine (eqSector_same q p _ m _ _ m _ B w10 (h.rd (by omega)) (g.rd (by omega)) (by omega) (by omega)).mono ?_
    rintro e w11 ⟨rfl, hb⟩
    have he11 : Eff 0 0 w10 w11 := Eff.of hb
    have hz11 : w10.heap.size ≤ w11.heap.size := he11.size
    have b11 : Below W.heap.size W w11 := b10.trans (he11.below b10.size (by omega))
    replace hr := (hr.below (he11.below (B := W.heap.size) (by omega) (by omega)) (Nat.le_refl _))
    replace g := g.keep he11 (by omega)
    replace t2 := t2.keep he11 (by omega)
    replace h := h.keep he11 (by omega)
    replace G_0 := he11.cell G_0 (by simp only; omega)
    replace G_1 := he11.cell G_1 (by simp only; omega)
    replace G_2 := he11.cell G_2 (by simp only; omega)
    replace H_0 := he11.cell H_0 (by simp only; omega)
    replace H_1 := he11.cell H_1 (by simp only; omega)
    replace H_2 := he11.cell H_2 (by simp only; omega)
    replace G_l := Nat.lt_of_lt_of_le G_l hz11
    replace H_l := Nat.lt_of_lt_of_le H_l hz11
    clear hb
    go_wp2_with fail
    refine (markSector_1 _ _ _ m _ B _ _ w11 h (by omega)).mono ?_
    rintro e w12 ⟨rfl, h, he⟩
    have he12 : Eff (w4.heap.size) (w5.heap.size) w11 w12 := he
    have hz12 : w11.heap.size ≤ w12.heap.size := he12.size
    have b12 : Below W.heap.size W w12 := b11.trans (he12.below b11.size (by omega))
    replace hr := (hr.below (he12.below (B := W.heap.size) (by omega) (by omega)) (Nat.le_refl _))
    replace g := g.keep he12 (by omega)
    replace t2 := t2.keep he12 (by omega)
    replace G_0 := he12.cell G_0 (by simp only; omega)
    replace G_1 := he12.cell G_1 (by simp only; omega)
    replace G_2 := he12.cell G_2 (by simp only; omega)
    replace H_0 := he12.cell H_0 (by simp only; omega)
    replace H_1 := he12.cell H_1 (by simp only; omega)
    replace H_2 := he12.cell H_2 (by simp only; omega)
    replace G_l := Nat.lt_of_lt_of_le G_l hz12
    replace H_l := Nat.lt_of_lt_of_le H_l hz12
    clear he
    go_wp2_with fail
    refine (heldSector_1 _ _ _ m _ w12 (h.rd (by omega)) (by omega)).mono ?_
    rintro e w13 ⟨rfl, hb⟩
    have he13 : Eff 0 0 w12 w13 := Eff.of hb
    have hz13 : w12.heap.size ≤ w13.heap.size := he13.size
    have b13 : Below W.heap.size W w13 := b12.trans (he13.below b12.size (by omega))
    replace hr := (hr.below (he13.below (B := W.heap.size) (by omega) (by omega)) (Nat.le_refl _))
    replace g := g.keep he13 (by omega)
    replace t2 := t2.keep he13 (by omega)
    replace h := h.keep he13 (by omega)
    replace G_0 := he13.cell G_0 (by simp only; omega)
    replace G_1 := he13.cell G_1 (by simp only; omega)
    replace G_2 := he13.cell G_2 (by simp only; omega)
    replace H_0 := he13.cell H_0 (by simp only; omega)
    replace H_1 := he13.cell H_1 (by simp only; omega)
    replace H_2 := he13.cell H_2 (by simp only; omega)
    replace G_l := Nat.lt_of_lt_of_le G_l hz13
    replace H_l := Nat.lt_of_lt_of_le H_l hz13
    clear hb
    go_wp2_with fail
    refine (toByteS_any A n c l w13 (hr.more (by omega)) (by omega)).mono ?_
    rintro e w14 ⟨At4, ct4, rfl, t4, hb⟩
    have he14 : Eff 0 0 w13 w14 := Eff.of hb
    have hz14 : w13.heap.size ≤ w14.heap.size := he14.size
    have b14 : Below W.heap.size W w14 := b13.trans (he14.below b13.size (by omega))
    replace hr := (hr.below (he14.below (B := W.heap.size) (by omega) (by omega)) (Nat.le_refl _))
    replace g := g.keep he14 (by omega)
    replace t2 := t2.keep he14 (by omega)
    replace h := h.keep he14 (by omega)
    replace G_0 := he14.cell G_0 (by simp only; omega)
    replace G_1 := he14.cell G_1 (by simp only; omega)
    replace G_2 := he14.cell G_2 (by simp only; omega)
    replace H_0 := he14.cell H_0 (by simp only; omega)
    replace H_1 := he14.cell H_1 (by simp only; omega)
    replace H_2 := he14.cell H_2 (by simp only; omega)
    replace G_l := Nat.lt_of_lt_of_le G_l hz14
    replace H_l := Nat.lt_of_lt_of_le H_l hz14
    clear hb
    go_wp2_with fail
    refine (impl_SectorRead _ n _ l t4.row_le (Own.caps t4).2 w14 (t4.rd (by omega))).mono ?_
    rintro e w15 hpost
    obtain ⟨Ak, ck, rfl, k, hb⟩ := hpost.get HG.out HQ.out HP.out HM.out HB.out
    clear hpost
    have he15 : Eff 0 0 w14 w15 := Eff.of hb
    have hz15 : w14.heap.size ≤ w15.heap.size := he15.size
    have b15 : Below W.heap.size W w15 := b14.trans (he15.below b14.size (by omega))
    replace hr := (hr.below (he15.below (B := W.heap.size) (by omega) (by omega)) (Nat.le_refl _))
    replace g := g.keep he15 (by omega)
    replace t2 := t2.keep he15 (by omega)
    replace h := h.keep he15 (by omega)
    replace t4 := t4.keep he15 (by omega)
    replace G_0 := he15.cell G_0 (by simp only; omega)
    replace G_1 := he15.cell G_1 (by simp only; omega)
    replace G_2 := he15.cell G_2 (by simp only; omega)
    replace H_0 := he15.cell H_0 (by simp only; omega)
    replace H_1 := he15.cell H_1 (by simp only; omega)
    replace H_2 := he15.cell H_2 (by simp only; omega)
    replace G_l := Nat.lt_of_lt_of_le G_l hz15
    replace H_l := Nat.lt_of_lt_of_le H_l hz15
    clear hb
    go_wp2_with fail
    have he16 : Eff 0 0 w15 (w15.alloc (.cells #[.int .i64 (q : Int), .int .i64 (p : Int), .slice Ak m ck] 32)) := Eff.alloc _ _
    have hs16 : (w15.alloc (.cells #[.int .i64 (q : Int), .int .i64 (p : Int), .slice Ak m ck] 32)).heap.size = w15.heap.size + 1 := (by simp)
    have K_0 : (w15.alloc (.cells #[.int .i64 (q : Int), .int .i64 (p : Int), .slice Ak m ck] 32)).cell? ⟨w15.heap.size, 0, none⟩ = some (.int .i64 (q : Int)) := var_cell _ _ _ _ _ rfl
    have K_1 : (w15.alloc (.cells #[.int .i64 (q : Int), .int .i64 (p : Int), .slice Ak m ck] 32)).cell? ⟨w15.heap.size, 1, none⟩ = some (.int .i64 (p : Int)) := var_cell _ _ _ _ _ rfl
    have K_2 : (w15.alloc (.cells #[.int .i64 (q : Int), .int .i64 (p : Int), .slice Ak m ck] 32)).cell? ⟨w15.heap.size, 2, none⟩ = some (.slice Ak m ck) := var_cell _ _ _ _ _ rfl
    generalize (w15.alloc (.cells #[.int .i64 (q : Int), .int .i64 (p : Int), .slice Ak m ck] 32)) = w16 at *
    have hz16 : w15.heap.size ≤ w16.heap.size := he16.size
    have b16 : Below W.heap.size W w16 := b15.trans (he16.below b15.size (by omega))
    replace hr := (hr.below (he16.below (B := W.heap.size) (by omega) (by omega)) (Nat.le_refl _))
    replace g := g.keep he16 (by omega)
    replace t2 := t2.keep he16 (by omega)
    replace h := h.keep he16 (by omega)
    replace t4 := t4.keep he16 (by omega)
    replace k := k.keep he16 (by omega)
    replace G_0 := he16.cell G_0 (by simp only; omega)
    replace G_1 := he16.cell G_1 (by simp only; omega)
    replace G_2 := he16.cell G_2 (by simp only; omega)
    replace H_0 := he16.cell H_0 (by simp only; omega)
    replace H_1 := he16.cell H_1 (by simp only; omega)
    replace H_2 := he16.cell H_2 (by simp only; omega)
    replace G_l := Nat.lt_of_lt_of_le G_l hz16
    replace H_l := Nat.lt_of_lt_of_le H_l hz16
    have K_l : w15.heap.size < w16.heap.size := (by omega)
    refine (eqSector_same q p _ m _ _ m _ B w16 (k.rd (by omega)) (g.rd (by omega)) (by omega) (by omega)).mono ?_
    rintro e w17 ⟨rfl, hb⟩
    have he17 : Eff 0 0 w16 w17 := Eff.of hb
    have hz17 : w16.heap.size ≤ w17.heap.size := he17.size
    have b17 : Below W.heap.size W w17 := b16.trans (he17.below b16.size (by omega))
    replace hr := (hr.below (he17.below (B := W.heap.size) (by omega) (by omega)) (Nat.le_refl _))
    replace g := g.keep he17 (by omega)
    replace t2 := t2.keep he17 (by omega)
    replace h := h.keep he17 (by omega)
    replace t4 := t4.keep he17 (by omega)
    replace k := k.keep he17 (by omega)
    replace G_0 := he17.cell G_0 (by simp only; omega)
    replace G_1 := he17.cell G_1 (by simp only; omega)
    replace G_2 := he17.cell G_2 (by simp only; omega)
    replace H_0 := he17.cell H_0 (by simp only; omega)
    replace H_1 := he17.cell H_1 (by simp only; omega)
    replace H_2 := he17.cell H_2 (by simp only; omega)
    replace K_0 := he17.cell K_0 (by simp only; omega)
    replace K_1 := he17.cell K_1 (by simp only; omega)
    replace K_2 := he17.cell K_2 (by simp only; omega)
    replace G_l := Nat.lt_of_lt_of_le G_l hz17
    replace H_l := Nat.lt_of_lt_of_le H_l hz17
    replace K_l := Nat.lt_of_lt_of_le K_l hz17
    clear hb
    go_wp2_with fail
    refine (heldSector_1 _ _ _ m _ w17 (h.rd (by omega)) (by omega)).mono ?_
    rintro e w18 ⟨rfl, hb⟩
    have he18 : Eff 0 0 w17 w18 := Eff.of hb
    have hz18 : w17.heap.size ≤ w18.heap.size := he18.size
    have b18 : Below W.heap.size W w18 := b17.trans (he18.below b17.size (by omega))
    replace hr := (hr.below (he18.below (B := W.heap.size) (by omega) (by omega)) (Nat.le_refl _))
    replace g := g.keep he18 (by omega)
    replace t2 := t2.keep he18 (by omega)
    replace h := h.keep he18 (by omega)
    replace t4 := t4.keep he18 (by omega)
    replace k := k.keep he18 (by omega)
    replace G_0 := he18.cell G_0 (by simp only; omega)
    replace G_1 := he18.cell G_1 (by simp only; omega)
    replace G_2 := he18.cell G_2 (by simp only; omega)
    replace H_0 := he18.cell H_0 (by simp only; omega)
    replace H_1 := he18.cell H_1 (by simp only; omega)
    replace H_2 := he18.cell H_2 (by simp only; omega)
    replace K_0 := he18.cell K_0 (by simp only; omega)
    replace K_1 := he18.cell K_1 (by simp only; omega)
    replace K_2 := he18.cell K_2 (by simp only; omega)
    replace G_l := Nat.lt_of_lt_of_le G_l hz18
    replace H_l := Nat.lt_of_lt_of_le H_l hz18
    replace K_l := Nat.lt_of_lt_of_le K_l hz18
    clear hb
    go_wp2_with fail
    go_ret
    exact ⟨rfl, b18⟩
end Go.Proofs.Ytdjjmagocakpnaa
