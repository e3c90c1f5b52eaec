/- Events in the laws: toEvent, eqEvent; the walk of the law on EventOk. -/
import Derived.Test.YtdjjmagocakpnaaEvS
import Derived.Test.YtdjjmagocakpnaaEvI
namespace Go.Proofs.Ytdjjmagocakpnaa
open Go.RowKit
set_option maxHeartbeats 4000000 in
set_option maxRecDepth 100000 in
theorem toEvent_any (k key ch to amt fee : Int) (y : Bool) (w : World) : Calls Try.prog 29 #[.agg #[.int .i64 k, .int .i64 key, .int .i64 ch, .int .i64 to, .int .i64 amt, .int .i64 fee, .bool y]] w fun e w' => e = .returned (.agg #[.int .i64 k, .int .i64 key, .int .i64 ch, .int .i64 to, .int .i64 amt, .int .i64 fee, .bool y]) ∧ Below w.heap.size w w' := by
  go_enter Try.func29, Try.ntmps29
  go_wp2
  refine bodyPost_ret (v := .agg #[.int .i64 k, .int .i64 key, .int .i64 ch, .int .i64 to, .int .i64 amt, .int .i64 fee, .bool y]) (by simp [results, Try.results29, go_sem]) rfl ⟨rfl, ?_⟩
  repeat' (first | exact Below.refl _ _ | (refine Below.alloc ?_ ?_ _) | (refine Below.drew ?_) | (refine Below.setCell ?_ ?_ _) | (refine Below.trans ?_ (Below.mono (by assumption) ?_)) | omega | (simp; omega) | (simp; done) | exact Below.size (by assumption) | (refine Nat.le_trans ?_ (Below.size (by assumption))))
set_option maxHeartbeats 4000000 in
set_option maxRecDepth 100000 in
theorem eqEvent_same (k key ch to amt fee : Int) (y : Bool) (w : World) : Calls Try.prog 52 #[.agg #[.int .i64 k, .int .i64 key, .int .i64 ch, .int .i64 to, .int .i64 amt, .int .i64 fee, .bool y], .agg #[.int .i64 k, .int .i64 key, .int .i64 ch, .int .i64 to, .int .i64 amt, .int .i64 fee, .bool y]] w fun e w' => e = .returned (.bool true) ∧ Below w.heap.size w w' := by
  have e0 : (k != k) = false := by simp
  have e1 : (key != key) = false := by simp
  have e2 : (ch != ch) = false := by simp
  have e3 : (to != to) = false := by simp
  have e4 : (amt != amt) = false := by simp
  have e5 : (fee != fee) = false := by simp
  have e6 : (y != y) = false := by simp
  go_enter Try.func52, Try.ntmps52
  go_wp2
  go_ret
  exact ⟨rfl, ev_b2 _ _ _⟩
set_option maxHeartbeats 4000000 in
set_option maxRecDepth 100000 in
theorem walk_FnExactEventOk (k key ch to amt fee : Int) (y : Bool) (_w0 : (Lit.int .i64 k).wf = true) (_w1 : (Lit.int .i64 key).wf = true) (_w2 : (Lit.int .i64 ch).wf = true) (_w3 : (Lit.int .i64 to).wf = true) (_w4 : (Lit.int .i64 amt).wf = true) (_w5 : (Lit.int .i64 fee).wf = true) (W : World) :
    Calls Try.prog 6 #[.agg #[.int .i64 k, .int .i64 key, .int .i64 ch, .int .i64 to, .int .i64 amt, .int .i64 fee, .bool y]] W fun e w' => e = .returned (.bool true) ∧ Below W.heap.size W w' := by
  obtain ⟨r, hr⟩ : ∃ r, evOk k key ch to amt fee y = r := ⟨_, rfl⟩
  have HR := Lib.hid hr
  clear hr
  have hbb : (r != r) = false := by simp
  go_enter Try.func6, Try.ntmps6
  go_wp2_with fail
  have he1 : Eff 0 0 W (W.alloc (.cells #[.int .i64 k, .int .i64 key, .int .i64 ch, .int .i64 to, .int .i64 amt, .int .i64 fee, .bool y] 40)) := Eff.alloc _ _
  have hs1 : (W.alloc (.cells #[.int .i64 k, .int .i64 key, .int .i64 ch, .int .i64 to, .int .i64 amt, .int .i64 fee, .bool y] 40)).heap.size = W.heap.size + 1 := (by simp)
  have aE_0 : (W.alloc (.cells #[.int .i64 k, .int .i64 key, .int .i64 ch, .int .i64 to, .int .i64 amt, .int .i64 fee, .bool y] 40)).cell? ⟨W.heap.size, 0, none⟩ = some (.int .i64 k) := var_cell _ _ _ _ _ rfl
  have aE_1 : (W.alloc (.cells #[.int .i64 k, .int .i64 key, .int .i64 ch, .int .i64 to, .int .i64 amt, .int .i64 fee, .bool y] 40)).cell? ⟨W.heap.size, 1, none⟩ = some (.int .i64 key) := var_cell _ _ _ _ _ rfl
  have aE_2 : (W.alloc (.cells #[.int .i64 k, .int .i64 key, .int .i64 ch, .int .i64 to, .int .i64 amt, .int .i64 fee, .bool y] 40)).cell? ⟨W.heap.size, 2, none⟩ = some (.int .i64 ch) := var_cell _ _ _ _ _ rfl
  have aE_3 : (W.alloc (.cells #[.int .i64 k, .int .i64 key, .int .i64 ch, .int .i64 to, .int .i64 amt, .int .i64 fee, .bool y] 40)).cell? ⟨W.heap.size, 3, none⟩ = some (.int .i64 to) := var_cell _ _ _ _ _ rfl
  have aE_4 : (W.alloc (.cells #[.int .i64 k, .int .i64 key, .int .i64 ch, .int .i64 to, .int .i64 amt, .int .i64 fee, .bool y] 40)).cell? ⟨W.heap.size, 4, none⟩ = some (.int .i64 amt) := var_cell _ _ _ _ _ rfl
  have aE_5 : (W.alloc (.cells #[.int .i64 k, .int .i64 key, .int .i64 ch, .int .i64 to, .int .i64 amt, .int .i64 fee, .bool y] 40)).cell? ⟨W.heap.size, 5, none⟩ = some (.int .i64 fee) := var_cell _ _ _ _ _ rfl
  have aE_6 : (W.alloc (.cells #[.int .i64 k, .int .i64 key, .int .i64 ch, .int .i64 to, .int .i64 amt, .int .i64 fee, .bool y] 40)).cell? ⟨W.heap.size, 6, none⟩ = some (.bool y) := var_cell _ _ _ _ _ rfl
  generalize (W.alloc (.cells #[.int .i64 k, .int .i64 key, .int .i64 ch, .int .i64 to, .int .i64 amt, .int .i64 fee, .bool y] 40)) = w1 at *
  have hz1 : W.heap.size ≤ w1.heap.size := he1.size
  have b1 : Below W.heap.size W w1 := he1.below (Nat.le_refl _) (by omega)
  have aE_l : W.heap.size < w1.heap.size := (by omega)
  refine (toEvent_any k key ch to amt fee y w1).mono ?_
  rintro e w2 ⟨rfl, hb⟩
  have he2 : Eff 0 0 w1 w2 := Eff.of hb
  have hz2 : w1.heap.size ≤ w2.heap.size := he2.size
  have b2 : Below W.heap.size W w2 := b1.trans (he2.below b1.size (by omega))
  replace aE_0 := he2.cell aE_0 (by simp only; omega)
  replace aE_1 := he2.cell aE_1 (by simp only; omega)
  replace aE_2 := he2.cell aE_2 (by simp only; omega)
  replace aE_3 := he2.cell aE_3 (by simp only; omega)
  replace aE_4 := he2.cell aE_4 (by simp only; omega)
  replace aE_5 := he2.cell aE_5 (by simp only; omega)
  replace aE_6 := he2.cell aE_6 (by simp only; omega)
  replace aE_l := Nat.lt_of_lt_of_le aE_l hz2
  clear hb
  go_wp2_with fail
  refine (spec_EventOk k key ch to amt fee y w2).mono ?_
  rintro e w3 ⟨rfl, hb⟩
  have he3 : Eff 0 0 w2 w3 := Eff.of hb
  have hz3 : w2.heap.size ≤ w3.heap.size := he3.size
  have b3 : Below W.heap.size W w3 := b2.trans (he3.below b2.size (by omega))
  replace aE_0 := he3.cell aE_0 (by simp only; omega)
  replace aE_1 := he3.cell aE_1 (by simp only; omega)
  replace aE_2 := he3.cell aE_2 (by simp only; omega)
  replace aE_3 := he3.cell aE_3 (by simp only; omega)
  replace aE_4 := he3.cell aE_4 (by simp only; omega)
  replace aE_5 := he3.cell aE_5 (by simp only; omega)
  replace aE_6 := he3.cell aE_6 (by simp only; omega)
  replace aE_l := Nat.lt_of_lt_of_le aE_l hz3
  clear hb
  rw [HR.out]
  go_wp2_with fail
  refine (toEvent_any k key ch to amt fee y w3).mono ?_
  rintro e w4 ⟨rfl, hb⟩
  have he4 : Eff 0 0 w3 w4 := Eff.of hb
  have hz4 : w3.heap.size ≤ w4.heap.size := he4.size
  have b4 : Below W.heap.size W w4 := b3.trans (he4.below b3.size (by omega))
  replace aE_0 := he4.cell aE_0 (by simp only; omega)
  replace aE_1 := he4.cell aE_1 (by simp only; omega)
  replace aE_2 := he4.cell aE_2 (by simp only; omega)
  replace aE_3 := he4.cell aE_3 (by simp only; omega)
  replace aE_4 := he4.cell aE_4 (by simp only; omega)
  replace aE_5 := he4.cell aE_5 (by simp only; omega)
  replace aE_6 := he4.cell aE_6 (by simp only; omega)
  replace aE_l := Nat.lt_of_lt_of_le aE_l hz4
  clear hb
  go_wp2_with fail
  refine (impl_EventOk k key ch to amt fee y w4).mono ?_
  rintro e w5 ⟨rfl, hb⟩
  have he5 : Eff 0 0 w4 w5 := Eff.of hb
  have hz5 : w4.heap.size ≤ w5.heap.size := he5.size
  have b5 : Below W.heap.size W w5 := b4.trans (he5.below b4.size (by omega))
  replace aE_0 := he5.cell aE_0 (by simp only; omega)
  replace aE_1 := he5.cell aE_1 (by simp only; omega)
  replace aE_2 := he5.cell aE_2 (by simp only; omega)
  replace aE_3 := he5.cell aE_3 (by simp only; omega)
  replace aE_4 := he5.cell aE_4 (by simp only; omega)
  replace aE_5 := he5.cell aE_5 (by simp only; omega)
  replace aE_6 := he5.cell aE_6 (by simp only; omega)
  replace aE_l := Nat.lt_of_lt_of_le aE_l hz5
  clear hb
  rw [HR.out]
  go_wp2_with fail
  go_ret
  exact ⟨rfl, b5⟩
end Go.Proofs.Ytdjjmagocakpnaa
