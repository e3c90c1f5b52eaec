/- The walk of the law on PutNum. -/
import Derived.Test.YtdjjmagocakpnaaPut
namespace Go.Proofs.Ytdjjmagocakpnaa
open Go.RowKit
set_option maxHeartbeats 4000000 in
set_option maxRecDepth 100000 in
theorem walk_FnExactPutNum (A : Option Addr) (n c : Nat) (l : List UInt8) (p : Int) (_wp : (Lit.int .i64 p).wf = true) (s : Int) (_ws : (Lit.int .i64 s).wf = true) (W : World) (_hnc : n ≤ c) (_hm : c ≤ maxLen) (hr : Rd W W.heap.size 1 A n (Lib.byteCells l)) :
    Calls Try.prog 5 #[.slice A n c, .int .i64 p, .int .i64 s] W fun e w' => e = .returned (.bool true) ∧ Below W.heap.size W w' := by
  by_cases hn1 : 1048576 < n
  · go_enter Try.func5, Try.ntmps5
    go_wp2
    go_ret
    exact ⟨rfl, Below.refl _ _⟩
  · have hn : n ≤ 1048576 := by omega
    clear hn1
    obtain ⟨ok, hok⟩ : ∃ ok, putOk p s = ok := ⟨_, rfl⟩
    obtain ⟨N, hN⟩ : ∃ N, (if putOk p s then n + s.toNat else 0) = N := ⟨_, rfl⟩
    obtain ⟨L, hL⟩ : ∃ L, (if putOk p s then l ++ digs p.toNat s.toNat else []) = L := ⟨_, rfl⟩
    have hNb : N ≤ 1048583 := by
      rw [← hN]
      split
      · rename_i h
        simp only [putOk, Bool.and_eq_true] at h
        have := inB_le h.1.1
        omega
      · omega
    have HN := Lib.hid hN
    have HL := Lib.hid hL
    have HOK := Lib.hid hok
    clear hN hL hok
    go_enter Try.func5, Try.ntmps5
    go_wp2_with fail
    refine (toByteS_any A n c l W (hr.more (by omega)) (by omega)).mono ?_
    rintro e w1 ⟨At1, ct1, rfl, t1, hb⟩
    have he1 : Eff 0 0 W w1 := Eff.of hb
    have hz1 : W.heap.size ≤ w1.heap.size := he1.size
    have b1 : Below W.heap.size W w1 := he1.below (Nat.le_refl _) (by omega)
    replace hr := (hr.below (he1.below (B := W.heap.size) (by omega) (by omega)) (Nat.le_refl _))
    clear hb
    go_wp2_with fail
    refine (spec_PutNum _ _ _ l p s (by omega) _ (t1.rd (by omega))).mono ?_
    rintro e w2 hpost
    obtain ⟨Ag, cg, rfl, g, hb⟩ := hpost.get HN.out HL.out
    clear hpost
    have he2 : Eff 0 0 w1 w2 := Eff.of hb
    have hz2 : w1.heap.size ≤ w2.heap.size := he2.size
    have b2 : Below W.heap.size W w2 := b1.trans (he2.below b1.size (by omega))
    replace hr := (hr.below (he2.below (B := W.heap.size) (by omega) (by omega)) (Nat.le_refl _))
    replace t1 := t1.keep he2 (by omega)
    clear hb
    go_wp2_with fail
    refine (toByteS_any A n c l w2 (hr.more (by omega)) (by omega)).mono ?_
    rintro e w3 ⟨Ax0, cx0, rfl, x0, hb⟩
    have he3 : Eff 0 0 w2 w3 := Eff.of hb
    have hz3 : w2.heap.size ≤ w3.heap.size := he3.size
    have b3 : Below W.heap.size W w3 := b2.trans (he3.below b2.size (by omega))
    replace hr := (hr.below (he3.below (B := W.heap.size) (by omega) (by omega)) (Nat.le_refl _))
    replace t1 := t1.keep he3 (by omega)
    replace g := g.keep he3 (by omega)
    clear hb
    go_wp2_with fail
    refine (impl_PutNum _ _ _ l p s (by omega) _ (x0.rd (by omega))).mono ?_
    rintro e w4 hpost
    obtain ⟨Ah, ch, rfl, h, hb⟩ := hpost.get HN.out HL.out
    clear hpost
    have he4 : Eff 0 0 w3 w4 := Eff.of hb
    have hz4 : w3.heap.size ≤ w4.heap.size := he4.size
    have b4 : Below W.heap.size W w4 := b3.trans (he4.below b3.size (by omega))
    replace hr := (hr.below (he4.below (B := W.heap.size) (by omega) (by omega)) (Nat.le_refl _))
    replace t1 := t1.keep he4 (by omega)
    replace g := g.keep he4 (by omega)
    replace x0 := x0.keep he4 (by omega)
    clear hb
    go_wp2_with fail
    refine (eqByteS_any _ _ _ L _ _ _ L _ (h.rd (by omega)) (g.rd (by omega)) (by omega) (by omega)).mono ?_
    rintro e w5 ⟨rfl, hb⟩
    have he5 : Eff 0 0 w4 w5 := Eff.of hb
    have hz5 : w4.heap.size ≤ w5.heap.size := he5.size
    have b5 : Below W.heap.size W w5 := b4.trans (he5.below b4.size (by omega))
    replace hr := (hr.below (he5.below (B := W.heap.size) (by omega) (by omega)) (Nat.le_refl _))
    replace t1 := t1.keep he5 (by omega)
    replace g := g.keep he5 (by omega)
    replace x0 := x0.keep he5 (by omega)
    replace h := h.keep he5 (by omega)
    clear hb
    rw [eqL_self]
    go_wp2_with fail
    refine (toByteS_any A n c l w5 (hr.more (by omega)) (by omega)).mono ?_
    rintro e w6 ⟨At2, ct2, rfl, t2, hb⟩
    have he6 : Eff 0 0 w5 w6 := Eff.of hb
    have hz6 : w5.heap.size ≤ w6.heap.size := he6.size
    have b6 : Below W.heap.size W w6 := b5.trans (he6.below b5.size (by omega))
    replace hr := (hr.below (he6.below (B := W.heap.size) (by omega) (by omega)) (Nat.le_refl _))
    replace t1 := t1.keep he6 (by omega)
    replace g := g.keep he6 (by omega)
    replace x0 := x0.keep he6 (by omega)
    replace h := h.keep he6 (by omega)
    clear hb
    go_wp2_with fail
    refine (eqByteS_any _ _ _ l _ _ _ l _ (x0.rd (by omega)) (t2.rd (by omega)) (by omega) (by omega)).mono ?_
    rintro e w7 ⟨rfl, hb⟩
    have he7 : Eff 0 0 w6 w7 := Eff.of hb
    have hz7 : w6.heap.size ≤ w7.heap.size := he7.size
    have b7 : Below W.heap.size W w7 := b6.trans (he7.below b6.size (by omega))
    replace hr := (hr.below (he7.below (B := W.heap.size) (by omega) (by omega)) (Nat.le_refl _))
    replace t1 := t1.keep he7 (by omega)
    replace g := g.keep he7 (by omega)
    replace x0 := x0.keep he7 (by omega)
    replace h := h.keep he7 (by omega)
    replace t2 := t2.keep he7 (by omega)
    clear hb
    rw [eqL_self]
    clear t1
    clear t2
    go_wp2_with fail
    refine (markByteS_1 _ _ _ l _ _ _ x0 (by omega)).mono ?_
    rintro e w8 ⟨rfl, x0, he⟩
    have he8 : Eff (w2.heap.size) (w3.heap.size) w7 w8 := he
    have hz8 : w7.heap.size ≤ w8.heap.size := he8.size
    have b8 : Below W.heap.size W w8 := b7.trans (he8.below b7.size (by omega))
    replace hr := (hr.below (he8.below (B := W.heap.size) (by omega) (by omega)) (Nat.le_refl _))
    replace g := g.keep he8 (by omega)
    replace h := h.keep he8 (by omega)
    clear he
    go_wp2_with fail
    refine (eqByteS_any _ _ _ L _ _ _ L _ (h.rd (by omega)) (g.rd (by omega)) (by omega) (by omega)).mono ?_
    rintro e w9 ⟨rfl, hb⟩
    have he9 : Eff 0 0 w8 w9 := Eff.of hb
    have hz9 : w8.heap.size ≤ w9.heap.size := he9.size
    have b9 : Below W.heap.size W w9 := b8.trans (he9.below b8.size (by omega))
    replace hr := (hr.below (he9.below (B := W.heap.size) (by omega) (by omega)) (Nat.le_refl _))
    replace g := g.keep he9 (by omega)
    replace x0 := x0.keep he9 (by omega)
    replace h := h.keep he9 (by omega)
    clear hb
    rw [eqL_self]
    go_wp2_with fail
    refine (markByteS_1 _ _ _ L _ _ _ h (by omega)).mono ?_
    rintro e w10 ⟨rfl, h, he⟩
    have he10 : Eff (w3.heap.size) (w4.heap.size) w9 w10 := he
    have hz10 : w9.heap.size ≤ w10.heap.size := he10.size
    have b10 : Below W.heap.size W w10 := b9.trans (he10.below b9.size (by omega))
    replace hr := (hr.below (he10.below (B := W.heap.size) (by omega) (by omega)) (Nat.le_refl _))
    replace g := g.keep he10 (by omega)
    replace x0 := x0.keep he10 (by omega)
    clear he
    go_wp2_with fail
    refine (heldByteS_1 _ _ _ _ (h.rd (by omega)) (by omega)).mono ?_
    rintro e w11 ⟨rfl, hb⟩
    have he11 : Eff 0 0 w10 w11 := Eff.of hb
    have hz11 : w10.heap.size ≤ w11.heap.size := he11.size
    have b11 : Below W.heap.size W w11 := b10.trans (he11.below b10.size (by omega))
    replace hr := (hr.below (he11.below (B := W.heap.size) (by omega) (by omega)) (Nat.le_refl _))
    replace g := g.keep he11 (by omega)
    replace x0 := x0.keep he11 (by omega)
    replace h := h.keep he11 (by omega)
    clear hb
    go_wp2_with fail
    refine (toByteS_any A n c l w11 (hr.more (by omega)) (by omega)).mono ?_
    rintro e w12 ⟨At3, ct3, rfl, t3, hb⟩
    have he12 : Eff 0 0 w11 w12 := Eff.of hb
    have hz12 : w11.heap.size ≤ w12.heap.size := he12.size
    have b12 : Below W.heap.size W w12 := b11.trans (he12.below b11.size (by omega))
    replace hr := (hr.below (he12.below (B := W.heap.size) (by omega) (by omega)) (Nat.le_refl _))
    replace g := g.keep he12 (by omega)
    replace x0 := x0.keep he12 (by omega)
    replace h := h.keep he12 (by omega)
    clear hb
    go_wp2_with fail
    refine (impl_PutNum _ _ _ l p s (by omega) _ (t3.rd (by omega))).mono ?_
    rintro e w13 hpost
    obtain ⟨Ak, ck, rfl, k, hb⟩ := hpost.get HN.out HL.out
    clear hpost
    have he13 : Eff 0 0 w12 w13 := Eff.of hb
    have hz13 : w12.heap.size ≤ w13.heap.size := he13.size
    have b13 : Below W.heap.size W w13 := b12.trans (he13.below b12.size (by omega))
    replace hr := (hr.below (he13.below (B := W.heap.size) (by omega) (by omega)) (Nat.le_refl _))
    replace g := g.keep he13 (by omega)
    replace x0 := x0.keep he13 (by omega)
    replace h := h.keep he13 (by omega)
    replace t3 := t3.keep he13 (by omega)
    clear hb
    go_wp2_with fail
    refine (eqByteS_any _ _ _ L _ _ _ L _ (k.rd (by omega)) (g.rd (by omega)) (by omega) (by omega)).mono ?_
    rintro e w14 ⟨rfl, hb⟩
    have he14 : Eff 0 0 w13 w14 := Eff.of hb
    have hz14 : w13.heap.size ≤ w14.heap.size := he14.size
    have b14 : Below W.heap.size W w14 := b13.trans (he14.below b13.size (by omega))
    replace hr := (hr.below (he14.below (B := W.heap.size) (by omega) (by omega)) (Nat.le_refl _))
    replace g := g.keep he14 (by omega)
    replace x0 := x0.keep he14 (by omega)
    replace h := h.keep he14 (by omega)
    replace t3 := t3.keep he14 (by omega)
    replace k := k.keep he14 (by omega)
    clear hb
    rw [eqL_self]
    go_wp2_with fail
    refine (heldByteS_1 _ _ _ _ (h.rd (by omega)) (by omega)).mono ?_
    rintro e w15 ⟨rfl, hb⟩
    have he15 : Eff 0 0 w14 w15 := Eff.of hb
    have hz15 : w14.heap.size ≤ w15.heap.size := he15.size
    have b15 : Below W.heap.size W w15 := b14.trans (he15.below b14.size (by omega))
    replace hr := (hr.below (he15.below (B := W.heap.size) (by omega) (by omega)) (Nat.le_refl _))
    replace g := g.keep he15 (by omega)
    replace x0 := x0.keep he15 (by omega)
    replace h := h.keep he15 (by omega)
    replace t3 := t3.keep he15 (by omega)
    replace k := k.keep he15 (by omega)
    clear hb
    go_wp2_with fail
    go_ret
    exact ⟨rfl, b15⟩
end Go.Proofs.Ytdjjmagocakpnaa
