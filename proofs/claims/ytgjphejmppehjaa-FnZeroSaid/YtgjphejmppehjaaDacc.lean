/- Draws of accounts (l02Acc, l02AnyAcc, DrawAccText). -/
import Derived.Test.YtgjphejmppehjaaDraw3
import Derived.IntWalk
namespace Go.Proofs.Ytgjphejmppehjaa
open Go.RowKit
theorem eff_set2a (w : World) (b : Nat) (u0 u1 : Value) : Eff b (b + 1) w ((w.setCell ⟨b, 0, none⟩ u0).setCell ⟨b, 1, none⟩ u1) :=
  ((Eff.refl _ _ _).setCell (Nat.le_refl b) (Nat.lt_succ_self b) u0).setCell (Nat.le_refl b) (Nat.lt_succ_self b) u1
/-- A drawn account. -/
def AccPost (B g : Nat) (w : World) (e : Ending) (w' : World) : Prop :=
  ∃ k c : Int, e = .returned (.agg #[.int .i64 k, .int .i64 c]) ∧ (in64 k ∧ in64 c) ∧ Cur B w' g ∧ Eff g (g + 1) w w'
theorem AccPost.mk {B g b : Nat} {w w1 w2 : World} {k c : Int} (hp : in64 k ∧ in64 c) (E : Eff g (g + 1) w w1) (hc : Cur B w1 g) (he : Eff b (b + 1) w1 w2) (h3 : w.heap.size ≤ b) (h4 : B ≤ g ∧ g < w.heap.size) : AccPost B g w (.returned (.agg #[.int .i64 k, .int .i64 c])) w2 :=
  ⟨k, c, rfl, hp, hc.keep he (by omega) (by omega), E.step he (by omega)⟩
set_option maxHeartbeats 1000000 in
set_option maxRecDepth 100000 in
theorem l02Acc_any (B g : Nat) (W : World) (hc : Cur B W g) : Calls Try.prog 71 #[.pointer (some ⟨g, 0, none⟩)] W (AccPost B g W) := by
  have hgl := hc.lt
  have hgB := hc.le
  have E0 : Eff g (g + 1) W W := Eff.refl _ _ _
  go_enter Try.func71, Try.ntmps71
  go_wp2_with fail
  have he1 : Eff 0 0 W (W.alloc (.cells #[.int .i64 0, .int .i64 0] 50)) := Eff.alloc _ _
  have hs1 : (W.alloc (.cells #[.int .i64 0, .int .i64 0] 50)).heap.size = W.heap.size + 1 := (by simp)
  have res_0 : (W.alloc (.cells #[.int .i64 0, .int .i64 0] 50)).cell? ⟨W.heap.size, 0, none⟩ = some (.int .i64 0) := var_cell _ _ _ _ _ rfl
  have res_1 : (W.alloc (.cells #[.int .i64 0, .int .i64 0] 50)).cell? ⟨W.heap.size, 1, none⟩ = some (.int .i64 0) := var_cell _ _ _ _ _ rfl
  have res_f0 : (W.alloc (.cells #[.int .i64 0, .int .i64 0] 50)).frozen? ⟨W.heap.size, 0, none⟩ = false := var_frozen _ _ _ _
  have res_f1 : (W.alloc (.cells #[.int .i64 0, .int .i64 0] 50)).frozen? ⟨W.heap.size, 1, none⟩ = false := var_frozen _ _ _ _
  generalize (W.alloc (.cells #[.int .i64 0, .int .i64 0] 50)) = w1 at *
  have hz1 : W.heap.size ≤ w1.heap.size := he1.size
  have E1 : Eff g (g + 1) W w1 := E0.step he1 (by omega)
  have S1 := E1.size
  replace hc := hc.keep he1 (by omega) (by omega)
  have res_l : W.heap.size < w1.heap.size := (by omega)
  go_wp2_with fail
  refine (l01Below_any B g (8) (by omega) w1 hc).mono ?_
  rintro e w2 hpost
  obtain ⟨x, rfl, ⟨x_0, x_1, -⟩, hc, he⟩ := hpost.eff
  clear hpost
  replace x_1 := x_1 (by omega)
  have he2 : Eff (g) (g + 1) w1 w2 := he
  have hz2 : w1.heap.size ≤ w2.heap.size := he2.size
  have E2 : Eff g (g + 1) W w2 := E1.step he2 (by omega)
  have S2 := E2.size
  replace res_f0 := (he2.frozen res_0 (by simp only; omega)).trans res_f0
  replace res_f1 := (he2.frozen res_1 (by simp only; omega)).trans res_f1
  replace res_0 := he2.cell res_0 (by simp only; omega)
  replace res_1 := he2.cell res_1 (by simp only; omega)
  replace res_l := Nat.lt_of_lt_of_le res_l hz2
  clear he
  by_cases h6 : 6 ≤ 1 + x
  · skip
    go_wp2_with fail
    have he3 : Eff 0 0 w2 (w2.alloc (.cells #[.int .i64 (1 + x), .int .i64 0] 50)) := Eff.alloc _ _
    have hs3 : (w2.alloc (.cells #[.int .i64 (1 + x), .int .i64 0] 50)).heap.size = w2.heap.size + 1 := (by simp)
    have a_0 : (w2.alloc (.cells #[.int .i64 (1 + x), .int .i64 0] 50)).cell? ⟨w2.heap.size, 0, none⟩ = some (.int .i64 (1 + x)) := var_cell _ _ _ _ _ rfl
    have a_1 : (w2.alloc (.cells #[.int .i64 (1 + x), .int .i64 0] 50)).cell? ⟨w2.heap.size, 1, none⟩ = some (.int .i64 0) := var_cell _ _ _ _ _ rfl
    have a_f0 : (w2.alloc (.cells #[.int .i64 (1 + x), .int .i64 0] 50)).frozen? ⟨w2.heap.size, 0, none⟩ = false := var_frozen _ _ _ _
    have a_f1 : (w2.alloc (.cells #[.int .i64 (1 + x), .int .i64 0] 50)).frozen? ⟨w2.heap.size, 1, none⟩ = false := var_frozen _ _ _ _
    generalize (w2.alloc (.cells #[.int .i64 (1 + x), .int .i64 0] 50)) = w3 at *
    have hz3 : w2.heap.size ≤ w3.heap.size := he3.size
    have E3 : Eff g (g + 1) W w3 := E2.step he3 (by omega)
    have S3 := E3.size
    replace res_f0 := (he3.frozen res_0 (by simp only; omega)).trans res_f0
    replace res_f1 := (he3.frozen res_1 (by simp only; omega)).trans res_f1
    replace res_0 := he3.cell res_0 (by simp only; omega)
    replace res_1 := he3.cell res_1 (by simp only; omega)
    replace res_l := Nat.lt_of_lt_of_le res_l hz3
    replace hc := hc.keep he3 (by omega) (by omega)
    have a_l : w2.heap.size < w3.heap.size := (by omega)
    refine (l01Below_any B g (3) (by omega) w3 hc).mono ?_
    rintro e w4 hpost
    obtain ⟨y, rfl, ⟨y_0, y_1, -⟩, hc, he⟩ := hpost.eff
    clear hpost
    replace y_1 := y_1 (by omega)
    have he4 : Eff (g) (g + 1) w3 w4 := he
    have hz4 : w3.heap.size ≤ w4.heap.size := he4.size
    have E4 : Eff g (g + 1) W w4 := E3.step he4 (by omega)
    have S4 := E4.size
    replace res_f0 := (he4.frozen res_0 (by simp only; omega)).trans res_f0
    replace res_f1 := (he4.frozen res_1 (by simp only; omega)).trans res_f1
    replace a_f0 := (he4.frozen a_0 (by simp only; omega)).trans a_f0
    replace a_f1 := (he4.frozen a_1 (by simp only; omega)).trans a_f1
    replace res_0 := he4.cell res_0 (by simp only; omega)
    replace res_1 := he4.cell res_1 (by simp only; omega)
    replace a_0 := he4.cell a_0 (by simp only; omega)
    replace a_1 := he4.cell a_1 (by simp only; omega)
    replace res_l := Nat.lt_of_lt_of_le res_l hz4
    replace a_l := Nat.lt_of_lt_of_le a_l hz4
    clear he
    go_wp2_with fail
    have he5 : Eff (w2.heap.size) (w2.heap.size + 1) w4 (w4.setCell ⟨w2.heap.size, 1, none⟩ (.int .i64 (1 + y))) := eff_set _ _ _ _
    replace res_f0 := (he5.frozen res_0 (by simp only; omega)).trans res_f0
    replace res_f1 := (he5.frozen res_1 (by simp only; omega)).trans res_f1
    replace a_f0 := set_frozen (p := ⟨w2.heap.size, 1, none⟩) a_f0 (.int .i64 (1 + y))
    replace a_f1 := set_frozen (p := ⟨w2.heap.size, 1, none⟩) a_f1 (.int .i64 (1 + y))
    replace res_0 := he5.cell res_0 (by simp only; omega)
    replace res_1 := he5.cell res_1 (by simp only; omega)
    replace a_0 := set_other (b' := w2.heap.size) (o' := 1) a_0 (.int .i64 (1 + y)) (.inr (by omega))
    replace a_1 := set_same a_1 (.int .i64 (1 + y))
    have hz5 : w4.heap.size ≤ (w4.setCell ⟨w2.heap.size, 1, none⟩ (.int .i64 (1 + y))).heap.size := he5.size
    generalize (w4.setCell ⟨w2.heap.size, 1, none⟩ (.int .i64 (1 + y))) = w5 at *
    have E5 : Eff g (g + 1) W w5 := E4.step he5 (by omega)
    have S5 := E5.size
    replace res_l := Nat.lt_of_lt_of_le res_l hz5
    replace a_l := Nat.lt_of_lt_of_le a_l hz5
    replace hc := hc.keep he5 (by omega) (by omega)
    refine (l01Below_any B g (12) (by omega) w5 hc).mono ?_
    rintro e w6 hpost
    obtain ⟨q, rfl, ⟨q_0, q_1, -⟩, hc, he⟩ := hpost.eff
    clear hpost
    replace q_1 := q_1 (by omega)
    have he6 : Eff (g) (g + 1) w5 w6 := he
    have hz6 : w5.heap.size ≤ w6.heap.size := he6.size
    have E6 : Eff g (g + 1) W w6 := E5.step he6 (by omega)
    have S6 := E6.size
    replace res_f0 := (he6.frozen res_0 (by simp only; omega)).trans res_f0
    replace res_f1 := (he6.frozen res_1 (by simp only; omega)).trans res_f1
    replace a_f0 := (he6.frozen a_0 (by simp only; omega)).trans a_f0
    replace a_f1 := (he6.frozen a_1 (by simp only; omega)).trans a_f1
    replace res_0 := he6.cell res_0 (by simp only; omega)
    replace res_1 := he6.cell res_1 (by simp only; omega)
    replace a_0 := he6.cell a_0 (by simp only; omega)
    replace a_1 := he6.cell a_1 (by simp only; omega)
    replace res_l := Nat.lt_of_lt_of_le res_l hz6
    replace a_l := Nat.lt_of_lt_of_le a_l hz6
    clear he
    by_cases hq : q = 0
    · skip
      subst hq
      go_wp2
      refine bodyPost_ret (v := .agg #[.int .i64 (1 + x), .int .i64 99]) (by simp [results, Try.results71, go_sem, *]) rfl ?_
      have he7 : Eff (w2.heap.size) (w2.heap.size + 1) w6 (w6.setCell ⟨w2.heap.size, 1, none⟩ (.int .i64 99)) := eff_set _ _ _ _
      replace res_f0 := (he7.frozen res_0 (by simp only; omega)).trans res_f0
      replace res_f1 := (he7.frozen res_1 (by simp only; omega)).trans res_f1
      replace a_f0 := set_frozen (p := ⟨w2.heap.size, 1, none⟩) a_f0 (.int .i64 99)
      replace a_f1 := set_frozen (p := ⟨w2.heap.size, 1, none⟩) a_f1 (.int .i64 99)
      replace res_0 := he7.cell res_0 (by simp only; omega)
      replace res_1 := he7.cell res_1 (by simp only; omega)
      replace a_0 := set_other (b' := w2.heap.size) (o' := 1) a_0 (.int .i64 99) (.inr (by omega))
      replace a_1 := set_same a_1 (.int .i64 99)
      have hz7 : w6.heap.size ≤ (w6.setCell ⟨w2.heap.size, 1, none⟩ (.int .i64 99)).heap.size := he7.size
      generalize (w6.setCell ⟨w2.heap.size, 1, none⟩ (.int .i64 99)) = w7 at *
      have E7 : Eff g (g + 1) W w7 := E6.step he7 (by omega)
      have S7 := E7.size
      replace res_l := Nat.lt_of_lt_of_le res_l hz7
      replace a_l := Nat.lt_of_lt_of_le a_l hz7
      replace hc := hc.keep he7 (by omega) (by omega)
      exact AccPost.mk (⟨by constructor <;> omega, by constructor <;> omega⟩) E7 hc (eff_set2a _ _ _ _) (by omega) (by omega)
    · skip
      have hq0 : (q == 0) = false := by simp; omega
      go_wp2
      refine bodyPost_ret (v := .agg #[.int .i64 (1 + x), .int .i64 (1 + y)]) (by simp [results, Try.results71, go_sem, *]) rfl ?_
      exact AccPost.mk (⟨by constructor <;> omega, by constructor <;> omega⟩) E6 hc (eff_set2a _ _ _ _) (by omega) (by omega)
  · skip
    go_wp2_with fail
    refine bodyPost_ret (v := .agg #[.int .i64 (1 + x), .int .i64 0]) (by simp [results, Try.results71, go_sem, *]) rfl ?_
    exact AccPost.mk ⟨by constructor <;> omega, by constructor <;> omega⟩ E2 hc ((eff_set2a _ _ _ _).new _) (by omega) (by omega)
set_option maxHeartbeats 1000000 in
set_option maxRecDepth 100000 in
theorem l02AnyAcc_any (B g : Nat) (W : World) (hc : Cur B W g) : Calls Try.prog 69 #[.pointer (some ⟨g, 0, none⟩)] W (AccPost B g W) := by
  have hgl := hc.lt
  have hgB := hc.le
  have E0 : Eff g (g + 1) W W := Eff.refl _ _ _
  go_enter Try.func69, Try.ntmps69
  go_wp2_with fail
  have he1 : Eff 0 0 W (W.alloc (.cells #[.int .i64 0, .int .i64 0] 50)) := Eff.alloc _ _
  have hs1 : (W.alloc (.cells #[.int .i64 0, .int .i64 0] 50)).heap.size = W.heap.size + 1 := (by simp)
  have res_0 : (W.alloc (.cells #[.int .i64 0, .int .i64 0] 50)).cell? ⟨W.heap.size, 0, none⟩ = some (.int .i64 0) := var_cell _ _ _ _ _ rfl
  have res_1 : (W.alloc (.cells #[.int .i64 0, .int .i64 0] 50)).cell? ⟨W.heap.size, 1, none⟩ = some (.int .i64 0) := var_cell _ _ _ _ _ rfl
  have res_f0 : (W.alloc (.cells #[.int .i64 0, .int .i64 0] 50)).frozen? ⟨W.heap.size, 0, none⟩ = false := var_frozen _ _ _ _
  have res_f1 : (W.alloc (.cells #[.int .i64 0, .int .i64 0] 50)).frozen? ⟨W.heap.size, 1, none⟩ = false := var_frozen _ _ _ _
  generalize (W.alloc (.cells #[.int .i64 0, .int .i64 0] 50)) = w1 at *
  have hz1 : W.heap.size ≤ w1.heap.size := he1.size
  have E1 : Eff g (g + 1) W w1 := E0.step he1 (by omega)
  have S1 := E1.size
  replace hc := hc.keep he1 (by omega) (by omega)
  have res_l : W.heap.size < w1.heap.size := (by omega)
  go_wp2_with fail
  refine (l02Acc_any B g w1 hc).mono ?_
  rintro e w2 hpost
  obtain ⟨k, c, rfl, hkc, hc, he⟩ := hpost
  have he2 : Eff (g) (g + 1) w1 w2 := he
  have hz2 : w1.heap.size ≤ w2.heap.size := he2.size
  have E2 : Eff g (g + 1) W w2 := E1.step he2 (by omega)
  have S2 := E2.size
  replace res_f0 := (he2.frozen res_0 (by simp only; omega)).trans res_f0
  replace res_f1 := (he2.frozen res_1 (by simp only; omega)).trans res_f1
  replace res_0 := he2.cell res_0 (by simp only; omega)
  replace res_1 := he2.cell res_1 (by simp only; omega)
  replace res_l := Nat.lt_of_lt_of_le res_l hz2
  clear he
  go_wp2_with fail
  have he3 : Eff 0 0 w2 (w2.alloc (.cells #[.int .i64 k, .int .i64 c] 50)) := Eff.alloc _ _
  have hs3 : (w2.alloc (.cells #[.int .i64 k, .int .i64 c] 50)).heap.size = w2.heap.size + 1 := (by simp)
  have a_0 : (w2.alloc (.cells #[.int .i64 k, .int .i64 c] 50)).cell? ⟨w2.heap.size, 0, none⟩ = some (.int .i64 k) := var_cell _ _ _ _ _ rfl
  have a_1 : (w2.alloc (.cells #[.int .i64 k, .int .i64 c] 50)).cell? ⟨w2.heap.size, 1, none⟩ = some (.int .i64 c) := var_cell _ _ _ _ _ rfl
  have a_f0 : (w2.alloc (.cells #[.int .i64 k, .int .i64 c] 50)).frozen? ⟨w2.heap.size, 0, none⟩ = false := var_frozen _ _ _ _
  have a_f1 : (w2.alloc (.cells #[.int .i64 k, .int .i64 c] 50)).frozen? ⟨w2.heap.size, 1, none⟩ = false := var_frozen _ _ _ _
  generalize (w2.alloc (.cells #[.int .i64 k, .int .i64 c] 50)) = w3 at *
  have hz3 : w2.heap.size ≤ w3.heap.size := he3.size
  have E3 : Eff g (g + 1) W w3 := E2.step he3 (by omega)
  have S3 := E3.size
  replace res_f0 := (he3.frozen res_0 (by simp only; omega)).trans res_f0
  replace res_f1 := (he3.frozen res_1 (by simp only; omega)).trans res_f1
  replace res_0 := he3.cell res_0 (by simp only; omega)
  replace res_1 := he3.cell res_1 (by simp only; omega)
  replace res_l := Nat.lt_of_lt_of_le res_l hz3
  replace hc := hc.keep he3 (by omega) (by omega)
  have a_l : w2.heap.size < w3.heap.size := (by omega)
  refine (l01Below_any B g (8) (by omega) w3 hc).mono ?_
  rintro e w4 hpost
  obtain ⟨q, rfl, ⟨q_0, q_1, -⟩, hc, he⟩ := hpost.eff
  clear hpost
  replace q_1 := q_1 (by omega)
  have he4 : Eff (g) (g + 1) w3 w4 := he
  have hz4 : w3.heap.size ≤ w4.heap.size := he4.size
  have E4 : Eff g (g + 1) W w4 := E3.step he4 (by omega)
  have S4 := E4.size
  replace res_f0 := (he4.frozen res_0 (by simp only; omega)).trans res_f0
  replace res_f1 := (he4.frozen res_1 (by simp only; omega)).trans res_f1
  replace a_f0 := (he4.frozen a_0 (by simp only; omega)).trans a_f0
  replace a_f1 := (he4.frozen a_1 (by simp only; omega)).trans a_f1
  replace res_0 := he4.cell res_0 (by simp only; omega)
  replace res_1 := he4.cell res_1 (by simp only; omega)
  replace a_0 := he4.cell a_0 (by simp only; omega)
  replace a_1 := he4.cell a_1 (by simp only; omega)
  replace res_l := Nat.lt_of_lt_of_le res_l hz4
  replace a_l := Nat.lt_of_lt_of_le a_l hz4
  clear he
  by_cases hq : q = 0
  · skip
    subst hq
    go_wp2_with fail
    refine (l01Raw_any B g w4 hc).mono ?_
    rintro e w5 hpost
    obtain ⟨z, rfl, z_r, hc, he⟩ := hpost.eff
    clear hpost
    have he5 : Eff (g) (g + 1) w4 w5 := he
    have hz5 : w4.heap.size ≤ w5.heap.size := he5.size
    have E5 : Eff g (g + 1) W w5 := E4.step he5 (by omega)
    have S5 := E5.size
    replace res_f0 := (he5.frozen res_0 (by simp only; omega)).trans res_f0
    replace res_f1 := (he5.frozen res_1 (by simp only; omega)).trans res_f1
    replace a_f0 := (he5.frozen a_0 (by simp only; omega)).trans a_f0
    replace a_f1 := (he5.frozen a_1 (by simp only; omega)).trans a_f1
    replace res_0 := he5.cell res_0 (by simp only; omega)
    replace res_1 := he5.cell res_1 (by simp only; omega)
    replace a_0 := he5.cell a_0 (by simp only; omega)
    replace a_1 := he5.cell a_1 (by simp only; omega)
    replace res_l := Nat.lt_of_lt_of_le res_l hz5
    replace a_l := Nat.lt_of_lt_of_le a_l hz5
    clear he
    go_wp2
    refine bodyPost_ret (v := .agg #[.int .i64 z, .int .i64 c]) (by simp [results, Try.results69, go_sem, *]) rfl ?_
    have he6 : Eff (w2.heap.size) (w2.heap.size + 1) w5 (w5.setCell ⟨w2.heap.size, 0, none⟩ (.int .i64 z)) := eff_set _ _ _ _
    replace res_f0 := (he6.frozen res_0 (by simp only; omega)).trans res_f0
    replace res_f1 := (he6.frozen res_1 (by simp only; omega)).trans res_f1
    replace a_f0 := set_frozen (p := ⟨w2.heap.size, 0, none⟩) a_f0 (.int .i64 z)
    replace a_f1 := set_frozen (p := ⟨w2.heap.size, 0, none⟩) a_f1 (.int .i64 z)
    replace res_0 := he6.cell res_0 (by simp only; omega)
    replace res_1 := he6.cell res_1 (by simp only; omega)
    replace a_0 := set_same a_0 (.int .i64 z)
    replace a_1 := set_other (b' := w2.heap.size) (o' := 0) a_1 (.int .i64 z) (.inr (by omega))
    have hz6 : w5.heap.size ≤ (w5.setCell ⟨w2.heap.size, 0, none⟩ (.int .i64 z)).heap.size := he6.size
    generalize (w5.setCell ⟨w2.heap.size, 0, none⟩ (.int .i64 z)) = w6 at *
    have E6 : Eff g (g + 1) W w6 := E5.step he6 (by omega)
    have S6 := E6.size
    replace res_l := Nat.lt_of_lt_of_le res_l hz6
    replace a_l := Nat.lt_of_lt_of_le a_l hz6
    replace hc := hc.keep he6 (by omega) (by omega)
    exact AccPost.mk (⟨z_r, hkc.2⟩) E6 hc (eff_set2a _ _ _ _) (by omega) (by omega)
  · skip
    by_cases hq1 : q = 1
    · skip
      subst hq1
      go_wp2_with fail
      refine (l01Raw_any B g w4 hc).mono ?_
      rintro e w5 hpost
      obtain ⟨z, rfl, z_r, hc, he⟩ := hpost.eff
      clear hpost
      have he5 : Eff (g) (g + 1) w4 w5 := he
      have hz5 : w4.heap.size ≤ w5.heap.size := he5.size
      have E5 : Eff g (g + 1) W w5 := E4.step he5 (by omega)
      have S5 := E5.size
      replace res_f0 := (he5.frozen res_0 (by simp only; omega)).trans res_f0
      replace res_f1 := (he5.frozen res_1 (by simp only; omega)).trans res_f1
      replace a_f0 := (he5.frozen a_0 (by simp only; omega)).trans a_f0
      replace a_f1 := (he5.frozen a_1 (by simp only; omega)).trans a_f1
      replace res_0 := he5.cell res_0 (by simp only; omega)
      replace res_1 := he5.cell res_1 (by simp only; omega)
      replace a_0 := he5.cell a_0 (by simp only; omega)
      replace a_1 := he5.cell a_1 (by simp only; omega)
      replace res_l := Nat.lt_of_lt_of_le res_l hz5
      replace a_l := Nat.lt_of_lt_of_le a_l hz5
      clear he
      go_wp2
      refine bodyPost_ret (v := .agg #[.int .i64 k, .int .i64 z]) (by simp [results, Try.results69, go_sem, *]) rfl ?_
      have he6 : Eff (w2.heap.size) (w2.heap.size + 1) w5 (w5.setCell ⟨w2.heap.size, 1, none⟩ (.int .i64 z)) := eff_set _ _ _ _
      replace res_f0 := (he6.frozen res_0 (by simp only; omega)).trans res_f0
      replace res_f1 := (he6.frozen res_1 (by simp only; omega)).trans res_f1
      replace a_f0 := set_frozen (p := ⟨w2.heap.size, 1, none⟩) a_f0 (.int .i64 z)
      replace a_f1 := set_frozen (p := ⟨w2.heap.size, 1, none⟩) a_f1 (.int .i64 z)
      replace res_0 := he6.cell res_0 (by simp only; omega)
      replace res_1 := he6.cell res_1 (by simp only; omega)
      replace a_0 := set_other (b' := w2.heap.size) (o' := 1) a_0 (.int .i64 z) (.inr (by omega))
      replace a_1 := set_same a_1 (.int .i64 z)
      have hz6 : w5.heap.size ≤ (w5.setCell ⟨w2.heap.size, 1, none⟩ (.int .i64 z)).heap.size := he6.size
      generalize (w5.setCell ⟨w2.heap.size, 1, none⟩ (.int .i64 z)) = w6 at *
      have E6 : Eff g (g + 1) W w6 := E5.step he6 (by omega)
      have S6 := E6.size
      replace res_l := Nat.lt_of_lt_of_le res_l hz6
      replace a_l := Nat.lt_of_lt_of_le a_l hz6
      replace hc := hc.keep he6 (by omega) (by omega)
      exact AccPost.mk (⟨hkc.1, z_r⟩) E6 hc (eff_set2a _ _ _ _) (by omega) (by omega)
    · skip
      have n0 : (q == 0) = false := by simp; omega
      have n1 : (q == 1) = false := by simp; omega
      go_wp2
      refine bodyPost_ret (v := .agg #[.int .i64 k, .int .i64 c]) (by simp [results, Try.results69, go_sem, *]) rfl ?_
      exact AccPost.mk (hkc) E4 hc (eff_set2a _ _ _ _) (by omega) (by omega)
end Go.Proofs.Ytgjphejmppehjaa
