/- The walk of the law on EventBody. -/
import Derived.Test.YtdjjmagocakpnaaEvB
import Derived.Test.YtdjjmagocakpnaaEvL
import Derived.Test.YtdjjmagocakpnaaSecL2
namespace Go.Proofs.Ytdjjmagocakpnaa
open Go.RowKit
set_option maxHeartbeats 4000000 in
set_option maxRecDepth 100000 in
theorem walk_FnExactEventBody (k key ch to amt fee : Int) (y : Bool) (_w0 : (Lit.int .i64 k).wf = true) (_w1 : (Lit.int .i64 key).wf = true) (_w2 : (Lit.int .i64 ch).wf = true) (_w3 : (Lit.int .i64 to).wf = true) (_w4 : (Lit.int .i64 amt).wf = true) (_w5 : (Lit.int .i64 fee).wf = true) (W : World) :
    Calls Try.prog 12 #[.agg #[.int .i64 k, .int .i64 key, .int .i64 ch, .int .i64 to, .int .i64 amt, .int .i64 fee, .bool y]] W fun e w' => e = .returned (.bool true) ∧ Below W.heap.size W w' := by
  obtain ⟨ok, hok⟩ : ∃ ok, evOk k key ch to amt fee y = ok := ⟨_, rfl⟩
  obtain ⟨N, hN⟩ : ∃ N, (if ok then 22 else 0) = N := ⟨_, rfl⟩
  obtain ⟨L, hL⟩ : ∃ L, (if ok then evBytes k.toNat key.toNat ch.toNat to.toNat amt.toNat fee.toNat y else []) = L := ⟨_, rfl⟩
  have hNb : N ≤ 128 := by rw [← hN]; split <;> omega
  have HN := Lib.hid hN
  have HL := Lib.hid hL
  have HO := Lib.hid hok
  have hbb : (ok != ok) = false := by simp
  clear hN hL hok
  go_enter Try.func12, Try.ntmps12
  go_wp2_with fail
  have he1 : Eff 0 0 W (W.alloc (.cells #[.int .i64 k, .int .i64 key, .int .i64 ch, .int .i64 to, .int .i64 amt, .int .i64 fee, .bool y] 40)) := Eff.alloc _ _
  have hs1 : (W.alloc (.cells #[.int .i64 k, .int .i64 key, .int .i64 ch, .int .i64 to, .int .i64 amt, .int .i64 fee, .bool y] 40)).heap.size = W.heap.size + 1 := (by simp)
  have aE_0 : (W.alloc (.cells #[.int .i64 k, .int .i64 key, .int .i64 ch, .int .i64 to, .int .i64 amt, .int .i64 fee, .bool y] 40)).cell? ⟨W.heap.size, 0, none⟩ = some (.int .i64 k) := var_cell _ _ _ _ _ rfl
  have aE_1 : (W.alloc (.cells #[.int .i64 k, .int .i64 key, .int .i64 ch, .int .i64 to, .int .i64 amt, .int .i64 fee, .bool y] 40)).cell? ⟨W.heap.size, 1, none⟩ = some (.int .i64 key) := var_cell _ _ _ _ _ rfl
  have aE_2 : (W.alloc (.cells #[.int .i64 k, .int .i64 key, .int .i64 ch, .int .i64 to, .int .i64 amt, .int .i64 fee, .bool y] 40)).cell? ⟨W.heap.size, 2, none⟩ = some (.int .i64 ch) := var_cell _ _ _ _ _ rfl
  have aE_3 : (W.alloc (.cells #[.int .i64 k, .int .i64 key, .int .i64 ch, .int .i64 to, .int .i64 amt, .int .i64 fee, .bool y] 40)).cell? ⟨W.heap.size, 3, none⟩ = some (.int .i64 to) := var_cell _ _ _ _ _ rfl
  have aE_4 : (W.alloc (.cells #[.int .i64 k, .int .i64 key, .int .i64 ch, .int .i64 to, .int .i64 amt, .int .i64 fee, .bool y] 40)).cell? ⟨W.heap.size, 4, none⟩ = some (.int .i64 amt) := var_cell _ _ _ _ _ rfl
  have aE_5 : (W.alloc (.cells #[.int .i64 k, .int .i64 key, .int .i64 ch, .int .i64 to, .int .i64 amt, .int .i64 fee, .bool y] 40)).cell? ⟨W.heap.size, 5, none⟩ = some (.int .i64 fee) := var_cell _ _ _ _ _ rfl
  have aE_6 : (W.alloc (.cells #[.int .i64 k, .int .i64 key, .int .i64 ch, .int .i64 to, .int .i64 amt, .int .i64 fee, .bool y] 40)).cell? ⟨W.heap.size, 6, none⟩ = some (.bool y) := var_cell _ _ _ _ _ rfl
  generalize (W.alloc (.cells #[.int .i64 k, .int .i64 key, .int .i64 ch, .int .i64 to, .int .i64 amt, .int .i64 fee, .bool y] 40)) = w1 at *
  have hz1 : W.heap.size ≤ w1.heap.size := he1.size
  have b1 : Below W.heap.size W w1 := he1.below (Nat.le_refl _) (by omega)
  have aE_l : W.heap.size < w1.heap.size := (by omega)
  refine (toEvent_any k key ch to amt fee y w1).mono ?_
  rintro e w2 ⟨rfl, hb⟩
  have he2 : Eff 0 0 w1 w2 := Eff.of hb
  have hz2 : w1.heap.size ≤ w2.heap.size := he2.size
  have b2 : Below W.heap.size W w2 := b1.trans (he2.below b1.size (by omega))
  replace aE_0 := he2.cell aE_0 (by simp only; omega)
  replace aE_1 := he2.cell aE_1 (by simp only; omega)
  replace aE_2 := he2.cell aE_2 (by simp only; omega)
  replace aE_3 := he2.cell aE_3 (by simp only; omega)
  replace aE_4 := he2.cell aE_4 (by simp only; omega)
  replace aE_5 := he2.cell aE_5 (by simp only; omega)
  replace aE_6 := he2.cell aE_6 (by simp only; omega)
  replace aE_l := Nat.lt_of_lt_of_le aE_l hz2
  clear hb
  go_wp2_with fail
  refine (spec_EventBody k key ch to amt fee y w2).mono ?_
  rintro e w3 hpost
  rw [HO.out] at hpost
  obtain ⟨Ag, cg, rfl, g, hb⟩ := hpost.get HN.out HL.out
  clear hpost
  have he3 : Eff 0 0 w2 w3 := Eff.of hb
  have hz3 : w2.heap.size ≤ w3.heap.size := he3.size
  have b3 : Below W.heap.size W w3 := b2.trans (he3.below b2.size (by omega))
  replace aE_0 := he3.cell aE_0 (by simp only; omega)
  replace aE_1 := he3.cell aE_1 (by simp only; omega)
  replace aE_2 := he3.cell aE_2 (by simp only; omega)
  replace aE_3 := he3.cell aE_3 (by simp only; omega)
  replace aE_4 := he3.cell aE_4 (by simp only; omega)
  replace aE_5 := he3.cell aE_5 (by simp only; omega)
  replace aE_6 := he3.cell aE_6 (by simp only; omega)
  replace aE_l := Nat.lt_of_lt_of_le aE_l hz3
  clear hb
  go_wp2_with fail
  refine (toEvent_any k key ch to amt fee y w3).mono ?_
  rintro e w4 ⟨rfl, hb⟩
  have he4 : Eff 0 0 w3 w4 := Eff.of hb
  have hz4 : w3.heap.size ≤ w4.heap.size := he4.size
  have b4 : Below W.heap.size W w4 := b3.trans (he4.below b3.size (by omega))
  replace g := g.keep he4 (by omega)
  replace aE_0 := he4.cell aE_0 (by simp only; omega)
  replace aE_1 := he4.cell aE_1 (by simp only; omega)
  replace aE_2 := he4.cell aE_2 (by simp only; omega)
  replace aE_3 := he4.cell aE_3 (by simp only; omega)
  replace aE_4 := he4.cell aE_4 (by simp only; omega)
  replace aE_5 := he4.cell aE_5 (by simp only; omega)
  replace aE_6 := he4.cell aE_6 (by simp only; omega)
  replace aE_l := Nat.lt_of_lt_of_le aE_l hz4
  clear hb
  go_wp2_with fail
  refine (impl_EventBody k key ch to amt fee y w4).mono ?_
  rintro e w5 hpost
  rw [HO.out] at hpost
  obtain ⟨Au, cu, rfl, u, hb⟩ := hpost.get HN.out HL.out
  clear hpost
  have he5 : Eff 0 0 w4 w5 := Eff.of hb
  have hz5 : w4.heap.size ≤ w5.heap.size := he5.size
  have b5 : Below W.heap.size W w5 := b4.trans (he5.below b4.size (by omega))
  replace g := g.keep he5 (by omega)
  replace aE_0 := he5.cell aE_0 (by simp only; omega)
  replace aE_1 := he5.cell aE_1 (by simp only; omega)
  replace aE_2 := he5.cell aE_2 (by simp only; omega)
  replace aE_3 := he5.cell aE_3 (by simp only; omega)
  replace aE_4 := he5.cell aE_4 (by simp only; omega)
  replace aE_5 := he5.cell aE_5 (by simp only; omega)
  replace aE_6 := he5.cell aE_6 (by simp only; omega)
  replace aE_l := Nat.lt_of_lt_of_le aE_l hz5
  clear hb
  go_wp2_with fail
  refine (eqByteS_any _ _ _ L _ _ _ L w5 (u.rd (by omega)) (g.rd (by omega)) (by omega) (by omega)).mono ?_
  rintro e w6 ⟨rfl, hb⟩
  have he6 : Eff 0 0 w5 w6 := Eff.of hb
  have hz6 : w5.heap.size ≤ w6.heap.size := he6.size
  have b6 : Below W.heap.size W w6 := b5.trans (he6.below b5.size (by omega))
  replace g := g.keep he6 (by omega)
  replace u := u.keep he6 (by omega)
  replace aE_0 := he6.cell aE_0 (by simp only; omega)
  replace aE_1 := he6.cell aE_1 (by simp only; omega)
  replace aE_2 := he6.cell aE_2 (by simp only; omega)
  replace aE_3 := he6.cell aE_3 (by simp only; omega)
  replace aE_4 := he6.cell aE_4 (by simp only; omega)
  replace aE_5 := he6.cell aE_5 (by simp only; omega)
  replace aE_6 := he6.cell aE_6 (by simp only; omega)
  replace aE_l := Nat.lt_of_lt_of_le aE_l hz6
  clear hb
  rw [eqL_self]
  go_wp2_with fail
  refine (markByteS_1 _ _ _ L _ _ w6 u (by omega)).mono ?_
  rintro e w7 ⟨rfl, u, he⟩
  have he7 : Eff (w4.heap.size) (w5.heap.size) w6 w7 := he
  have hz7 : w6.heap.size ≤ w7.heap.size := he7.size
  have b7 : Below W.heap.size W w7 := b6.trans (he7.below b6.size (by omega))
  replace g := g.keep he7 (by omega)
  replace aE_0 := he7.cell aE_0 (by simp only; omega)
  replace aE_1 := he7.cell aE_1 (by simp only; omega)
  replace aE_2 := he7.cell aE_2 (by simp only; omega)
  replace aE_3 := he7.cell aE_3 (by simp only; omega)
  replace aE_4 := he7.cell aE_4 (by simp only; omega)
  replace aE_5 := he7.cell aE_5 (by simp only; omega)
  replace aE_6 := he7.cell aE_6 (by simp only; omega)
  replace aE_l := Nat.lt_of_lt_of_le aE_l hz7
  clear he
  go_wp2_with fail
  refine (heldByteS_1 _ _ _ w7 (u.rd (by omega)) (by omega)).mono ?_
  rintro e w8 ⟨rfl, hb⟩
  have he8 : Eff 0 0 w7 w8 := Eff.of hb
  have hz8 : w7.heap.size ≤ w8.heap.size := he8.size
  have b8 : Below W.heap.size W w8 := b7.trans (he8.below b7.size (by omega))
  replace g := g.keep he8 (by omega)
  replace u := u.keep he8 (by omega)
  replace aE_0 := he8.cell aE_0 (by simp only; omega)
  replace aE_1 := he8.cell aE_1 (by simp only; omega)
  replace aE_2 := he8.cell aE_2 (by simp only; omega)
  replace aE_3 := he8.cell aE_3 (by simp only; omega)
  replace aE_4 := he8.cell aE_4 (by simp only; omega)
  replace aE_5 := he8.cell aE_5 (by simp only; omega)
  replace aE_6 := he8.cell aE_6 (by simp only; omega)
  replace aE_l := Nat.lt_of_lt_of_le aE_l hz8
  clear hb
  go_wp2_with fail
  refine (toEvent_any k key ch to amt fee y w8).mono ?_
  rintro e w9 ⟨rfl, hb⟩
  have he9 : Eff 0 0 w8 w9 := Eff.of hb
  have hz9 : w8.heap.size ≤ w9.heap.size := he9.size
  have b9 : Below W.heap.size W w9 := b8.trans (he9.below b8.size (by omega))
  replace g := g.keep he9 (by omega)
  replace u := u.keep he9 (by omega)
  replace aE_0 := he9.cell aE_0 (by simp only; omega)
  replace aE_1 := he9.cell aE_1 (by simp only; omega)
  replace aE_2 := he9.cell aE_2 (by simp only; omega)
  replace aE_3 := he9.cell aE_3 (by simp only; omega)
  replace aE_4 := he9.cell aE_4 (by simp only; omega)
  replace aE_5 := he9.cell aE_5 (by simp only; omega)
  replace aE_6 := he9.cell aE_6 (by simp only; omega)
  replace aE_l := Nat.lt_of_lt_of_le aE_l hz9
  clear hb
  go_wp2_with fail
  refine (impl_EventBody k key ch to amt fee y w9).mono ?_
  rintro e w10 hpost
  rw [HO.out] at hpost
  obtain ⟨Aq, cq, rfl, q, hb⟩ := hpost.get HN.out HL.out
  clear hpost
  have he10 : Eff 0 0 w9 w10 := Eff.of hb
  have hz10 : w9.heap.size ≤ w10.heap.size := he10.size
  have b10 : Below W.heap.size W w10 := b9.trans (he10.below b9.size (by omega))
  replace g := g.keep he10 (by omega)
  replace u := u.keep he10 (by omega)
  replace aE_0 := he10.cell aE_0 (by simp only; omega)
  replace aE_1 := he10.cell aE_1 (by simp only; omega)
  replace aE_2 := he10.cell aE_2 (by simp only; omega)
  replace aE_3 := he10.cell aE_3 (by simp only; omega)
  replace aE_4 := he10.cell aE_4 (by simp only; omega)
  replace aE_5 := he10.cell aE_5 (by simp only; omega)
  replace aE_6 := he10.cell aE_6 (by simp only; omega)
  replace aE_l := Nat.lt_of_lt_of_le aE_l hz10
  clear hb
  go_wp2_with fail
  refine (eqByteS_any _ _ _ L _ _ _ L w10 (q.rd (by omega)) (g.rd (by omega)) (by omega) (by omega)).mono ?_
  rintro e w11 ⟨rfl, hb⟩
  have he11 : Eff 0 0 w10 w11 := Eff.of hb
  have hz11 : w10.heap.size ≤ w11.heap.size := he11.size
  have b11 : Below W.heap.size W w11 := b10.trans (he11.below b10.size (by omega))
  replace g := g.keep he11 (by omega)
  replace u := u.keep he11 (by omega)
  replace q := q.keep he11 (by omega)
  replace aE_0 := he11.cell aE_0 (by simp only; omega)
  replace aE_1 := he11.cell aE_1 (by simp only; omega)
  replace aE_2 := he11.cell aE_2 (by simp only; omega)
  replace aE_3 := he11.cell aE_3 (by simp only; omega)
  replace aE_4 := he11.cell aE_4 (by simp only; omega)
  replace aE_5 := he11.cell aE_5 (by simp only; omega)
  replace aE_6 := he11.cell aE_6 (by simp only; omega)
  replace aE_l := Nat.lt_of_lt_of_le aE_l hz11
  clear hb
  rw [eqL_self]
  go_wp2_with fail
  refine (heldByteS_1 _ _ _ w11 (u.rd (by omega)) (by omega)).mono ?_
  rintro e w12 ⟨rfl, hb⟩
  have he12 : Eff 0 0 w11 w12 := Eff.of hb
  have hz12 : w11.heap.size ≤ w12.heap.size := he12.size
  have b12 : Below W.heap.size W w12 := b11.trans (he12.below b11.size (by omega))
  replace g := g.keep he12 (by omega)
  replace u := u.keep he12 (by omega)
  replace q := q.keep he12 (by omega)
  replace aE_0 := he12.cell aE_0 (by simp only; omega)
  replace aE_1 := he12.cell aE_1 (by simp only; omega)
  replace aE_2 := he12.cell aE_2 (by simp only; omega)
  replace aE_3 := he12.cell aE_3 (by simp only; omega)
  replace aE_4 := he12.cell aE_4 (by simp only; omega)
  replace aE_5 := he12.cell aE_5 (by simp only; omega)
  replace aE_6 := he12.cell aE_6 (by simp only; omega)
  replace aE_l := Nat.lt_of_lt_of_le aE_l hz12
  clear hb
  go_wp2_with fail
  go_ret
  exact ⟨rfl, b12⟩
end Go.Proofs.Ytdjjmagocakpnaa
