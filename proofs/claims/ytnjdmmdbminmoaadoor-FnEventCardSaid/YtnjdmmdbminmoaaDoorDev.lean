/- Draws of events (l04Any, DrawEventBody). -/
import Derived.Test.YtnjdmmdbminmoaaDoorDev0
namespace Go.Proofs.YtnjdmmdbminmoaaDoor
open Go.RowKit
set_option maxHeartbeats 4000000 in
set_option maxRecDepth 100000 in
theorem l04Any_any (B g : Nat) (W : World) (hc : Cur B W g) : Calls Tryd.prog 47 #[.pointer (some ⟨g, 0, none⟩)] W (EvPost B g W) := by
  have hgl := hc.lt
  have hgB := hc.le
  have E0 : Eff g (g + 1) W W := Eff.refl _ _ _
  go_enter Tryd.func47, Tryd.ntmps47
  go_wp2_with fail
  have he1 : Eff 0 0 W (W.alloc (.cells #[.int .i64 0, .int .i64 0, .int .i64 0, .int .i64 0, .int .i64 0, .int .i64 0, .bool false] 32)) := Eff.alloc _ _
  have hs1 : (W.alloc (.cells #[.int .i64 0, .int .i64 0, .int .i64 0, .int .i64 0, .int .i64 0, .int .i64 0, .bool false] 32)).heap.size = W.heap.size + 1 := (by simp)
  have res_0 : (W.alloc (.cells #[.int .i64 0, .int .i64 0, .int .i64 0, .int .i64 0, .int .i64 0, .int .i64 0, .bool false] 32)).cell? ⟨W.heap.size, 0, none⟩ = some (.int .i64 0) := var_cell _ _ _ _ _ rfl
  have res_1 : (W.alloc (.cells #[.int .i64 0, .int .i64 0, .int .i64 0, .int .i64 0, .int .i64 0, .int .i64 0, .bool false] 32)).cell? ⟨W.heap.size, 1, none⟩ = some (.int .i64 0) := var_cell _ _ _ _ _ rfl
  have res_2 : (W.alloc (.cells #[.int .i64 0, .int .i64 0, .int .i64 0, .int .i64 0, .int .i64 0, .int .i64 0, .bool false] 32)).cell? ⟨W.heap.size, 2, none⟩ = some (.int .i64 0) := var_cell _ _ _ _ _ rfl
  have res_3 : (W.alloc (.cells #[.int .i64 0, .int .i64 0, .int .i64 0, .int .i64 0, .int .i64 0, .int .i64 0, .bool false] 32)).cell? ⟨W.heap.size, 3, none⟩ = some (.int .i64 0) := var_cell _ _ _ _ _ rfl
  have res_4 : (W.alloc (.cells #[.int .i64 0, .int .i64 0, .int .i64 0, .int .i64 0, .int .i64 0, .int .i64 0, .bool false] 32)).cell? ⟨W.heap.size, 4, none⟩ = some (.int .i64 0) := var_cell _ _ _ _ _ rfl
  have res_5 : (W.alloc (.cells #[.int .i64 0, .int .i64 0, .int .i64 0, .int .i64 0, .int .i64 0, .int .i64 0, .bool false] 32)).cell? ⟨W.heap.size, 5, none⟩ = some (.int .i64 0) := var_cell _ _ _ _ _ rfl
  have res_6 : (W.alloc (.cells #[.int .i64 0, .int .i64 0, .int .i64 0, .int .i64 0, .int .i64 0, .int .i64 0, .bool false] 32)).cell? ⟨W.heap.size, 6, none⟩ = some (.bool false) := var_cell _ _ _ _ _ rfl
  have res_f0 : (W.alloc (.cells #[.int .i64 0, .int .i64 0, .int .i64 0, .int .i64 0, .int .i64 0, .int .i64 0, .bool false] 32)).frozen? ⟨W.heap.size, 0, none⟩ = false := var_frozen _ _ _ _
  have res_f1 : (W.alloc (.cells #[.int .i64 0, .int .i64 0, .int .i64 0, .int .i64 0, .int .i64 0, .int .i64 0, .bool false] 32)).frozen? ⟨W.heap.size, 1, none⟩ = false := var_frozen _ _ _ _
  have res_f2 : (W.alloc (.cells #[.int .i64 0, .int .i64 0, .int .i64 0, .int .i64 0, .int .i64 0, .int .i64 0, .bool false] 32)).frozen? ⟨W.heap.size, 2, none⟩ = false := var_frozen _ _ _ _
  have res_f3 : (W.alloc (.cells #[.int .i64 0, .int .i64 0, .int .i64 0, .int .i64 0, .int .i64 0, .int .i64 0, .bool false] 32)).frozen? ⟨W.heap.size, 3, none⟩ = false := var_frozen _ _ _ _
  have res_f4 : (W.alloc (.cells #[.int .i64 0, .int .i64 0, .int .i64 0, .int .i64 0, .int .i64 0, .int .i64 0, .bool false] 32)).frozen? ⟨W.heap.size, 4, none⟩ = false := var_frozen _ _ _ _
  have res_f5 : (W.alloc (.cells #[.int .i64 0, .int .i64 0, .int .i64 0, .int .i64 0, .int .i64 0, .int .i64 0, .bool false] 32)).frozen? ⟨W.heap.size, 5, none⟩ = false := var_frozen _ _ _ _
  have res_f6 : (W.alloc (.cells #[.int .i64 0, .int .i64 0, .int .i64 0, .int .i64 0, .int .i64 0, .int .i64 0, .bool false] 32)).frozen? ⟨W.heap.size, 6, none⟩ = false := var_frozen _ _ _ _
  generalize (W.alloc (.cells #[.int .i64 0, .int .i64 0, .int .i64 0, .int .i64 0, .int .i64 0, .int .i64 0, .bool false] 32)) = w1 at *
  have hz1 : W.heap.size ≤ w1.heap.size := he1.size
  have E1 : Eff g (g + 1) W w1 := E0.step he1 (by omega)
  have S1 := E1.size
  replace hc := hc.keep he1 (by omega) (by omega)
  have res_l : W.heap.size < w1.heap.size := (by omega)
  have zr : Z7At w1 W.heap.size := ⟨res_0, res_1, res_2, res_3, res_4, res_5, res_6, res_f0, res_f1, res_f2, res_f3, res_f4, res_f5, res_f6⟩
  clear res_0 res_1 res_2 res_3 res_4 res_5 res_6 res_f0 res_f1 res_f2 res_f3 res_f4 res_f5 res_f6
  refine (l04Draw_any B g w1 hc).mono ?_
  rintro e w2 hpost
  obtain ⟨k, key, ch, to, amt, fee, y, rfl, hc, he⟩ := hpost
  have he2 : Eff (g) (g + 1) w1 w2 := he
  have hz2 : w1.heap.size ≤ w2.heap.size := he2.size
  have E2 : Eff g (g + 1) W w2 := E1.step he2 (by omega)
  have S2 := E2.size
  replace zr := zr.keep he2 (by omega)
  replace res_l := Nat.lt_of_lt_of_le res_l hz2
  clear he
  go_wp2_with fail
  have he3 : Eff 0 0 w2 (w2.alloc (.cells #[.int .i64 k, .int .i64 key, .int .i64 ch, .int .i64 to, .int .i64 amt, .int .i64 fee, .bool y] 32)) := Eff.alloc _ _
  have hs3 : (w2.alloc (.cells #[.int .i64 k, .int .i64 key, .int .i64 ch, .int .i64 to, .int .i64 amt, .int .i64 fee, .bool y] 32)).heap.size = w2.heap.size + 1 := (by simp)
  have e_0 : (w2.alloc (.cells #[.int .i64 k, .int .i64 key, .int .i64 ch, .int .i64 to, .int .i64 amt, .int .i64 fee, .bool y] 32)).cell? ⟨w2.heap.size, 0, none⟩ = some (.int .i64 k) := var_cell _ _ _ _ _ rfl
  have e_1 : (w2.alloc (.cells #[.int .i64 k, .int .i64 key, .int .i64 ch, .int .i64 to, .int .i64 amt, .int .i64 fee, .bool y] 32)).cell? ⟨w2.heap.size, 1, none⟩ = some (.int .i64 key) := var_cell _ _ _ _ _ rfl
  have e_2 : (w2.alloc (.cells #[.int .i64 k, .int .i64 key, .int .i64 ch, .int .i64 to, .int .i64 amt, .int .i64 fee, .bool y] 32)).cell? ⟨w2.heap.size, 2, none⟩ = some (.int .i64 ch) := var_cell _ _ _ _ _ rfl
  have e_3 : (w2.alloc (.cells #[.int .i64 k, .int .i64 key, .int .i64 ch, .int .i64 to, .int .i64 amt, .int .i64 fee, .bool y] 32)).cell? ⟨w2.heap.size, 3, none⟩ = some (.int .i64 to) := var_cell _ _ _ _ _ rfl
  have e_4 : (w2.alloc (.cells #[.int .i64 k, .int .i64 key, .int .i64 ch, .int .i64 to, .int .i64 amt, .int .i64 fee, .bool y] 32)).cell? ⟨w2.heap.size, 4, none⟩ = some (.int .i64 amt) := var_cell _ _ _ _ _ rfl
  have e_5 : (w2.alloc (.cells #[.int .i64 k, .int .i64 key, .int .i64 ch, .int .i64 to, .int .i64 amt, .int .i64 fee, .bool y] 32)).cell? ⟨w2.heap.size, 5, none⟩ = some (.int .i64 fee) := var_cell _ _ _ _ _ rfl
  have e_6 : (w2.alloc (.cells #[.int .i64 k, .int .i64 key, .int .i64 ch, .int .i64 to, .int .i64 amt, .int .i64 fee, .bool y] 32)).cell? ⟨w2.heap.size, 6, none⟩ = some (.bool y) := var_cell _ _ _ _ _ rfl
  have e_f0 : (w2.alloc (.cells #[.int .i64 k, .int .i64 key, .int .i64 ch, .int .i64 to, .int .i64 amt, .int .i64 fee, .bool y] 32)).frozen? ⟨w2.heap.size, 0, none⟩ = false := var_frozen _ _ _ _
  have e_f1 : (w2.alloc (.cells #[.int .i64 k, .int .i64 key, .int .i64 ch, .int .i64 to, .int .i64 amt, .int .i64 fee, .bool y] 32)).frozen? ⟨w2.heap.size, 1, none⟩ = false := var_frozen _ _ _ _
  have e_f2 : (w2.alloc (.cells #[.int .i64 k, .int .i64 key, .int .i64 ch, .int .i64 to, .int .i64 amt, .int .i64 fee, .bool y] 32)).frozen? ⟨w2.heap.size, 2, none⟩ = false := var_frozen _ _ _ _
  have e_f3 : (w2.alloc (.cells #[.int .i64 k, .int .i64 key, .int .i64 ch, .int .i64 to, .int .i64 amt, .int .i64 fee, .bool y] 32)).frozen? ⟨w2.heap.size, 3, none⟩ = false := var_frozen _ _ _ _
  have e_f4 : (w2.alloc (.cells #[.int .i64 k, .int .i64 key, .int .i64 ch, .int .i64 to, .int .i64 amt, .int .i64 fee, .bool y] 32)).frozen? ⟨w2.heap.size, 4, none⟩ = false := var_frozen _ _ _ _
  have e_f5 : (w2.alloc (.cells #[.int .i64 k, .int .i64 key, .int .i64 ch, .int .i64 to, .int .i64 amt, .int .i64 fee, .bool y] 32)).frozen? ⟨w2.heap.size, 5, none⟩ = false := var_frozen _ _ _ _
  have e_f6 : (w2.alloc (.cells #[.int .i64 k, .int .i64 key, .int .i64 ch, .int .i64 to, .int .i64 amt, .int .i64 fee, .bool y] 32)).frozen? ⟨w2.heap.size, 6, none⟩ = false := var_frozen _ _ _ _
  generalize (w2.alloc (.cells #[.int .i64 k, .int .i64 key, .int .i64 ch, .int .i64 to, .int .i64 amt, .int .i64 fee, .bool y] 32)) = w3 at *
  have hz3 : w2.heap.size ≤ w3.heap.size := he3.size
  have E3 : Eff g (g + 1) W w3 := E2.step he3 (by omega)
  have S3 := E3.size
  replace zr := zr.keep he3 (by omega)
  replace res_l := Nat.lt_of_lt_of_le res_l hz3
  replace hc := hc.keep he3 (by omega) (by omega)
  have e_l : w2.heap.size < w3.heap.size := (by omega)
  refine (l01Below_any B g (16) (by omega) w3 hc).mono ?_
  rintro e w4 hpost
  obtain ⟨q, rfl, ⟨q_0, q_1, -⟩, hc, he⟩ := hpost.eff
  clear hpost
  replace q_1 := q_1 (by omega)
  have he4 : Eff (g) (g + 1) w3 w4 := he
  have hz4 : w3.heap.size ≤ w4.heap.size := he4.size
  have E4 : Eff g (g + 1) W w4 := E3.step he4 (by omega)
  have S4 := E4.size
  replace zr := zr.keep he4 (by omega)
  replace e_f0 := (he4.frozen e_0 (by simp only; omega)).trans e_f0
  replace e_f1 := (he4.frozen e_1 (by simp only; omega)).trans e_f1
  replace e_f2 := (he4.frozen e_2 (by simp only; omega)).trans e_f2
  replace e_f3 := (he4.frozen e_3 (by simp only; omega)).trans e_f3
  replace e_f4 := (he4.frozen e_4 (by simp only; omega)).trans e_f4
  replace e_f5 := (he4.frozen e_5 (by simp only; omega)).trans e_f5
  replace e_f6 := (he4.frozen e_6 (by simp only; omega)).trans e_f6
  replace e_0 := he4.cell e_0 (by simp only; omega)
  replace e_1 := he4.cell e_1 (by simp only; omega)
  replace e_2 := he4.cell e_2 (by simp only; omega)
  replace e_3 := he4.cell e_3 (by simp only; omega)
  replace e_4 := he4.cell e_4 (by simp only; omega)
  replace e_5 := he4.cell e_5 (by simp only; omega)
  replace e_6 := he4.cell e_6 (by simp only; omega)
  replace res_l := Nat.lt_of_lt_of_le res_l hz4
  replace e_l := Nat.lt_of_lt_of_le e_l hz4
  clear he
  by_cases hq0 : q = 0
  · skip
    subst hq0
    go_wp2_with fail
    refine (l01Raw_any B g w4 hc).mono ?_
    rintro e w5 hpost
    obtain ⟨z, rfl, z_r, hc, he⟩ := hpost.eff
    clear hpost
    have he5 : Eff (g) (g + 1) w4 w5 := he
    have hz5 : w4.heap.size ≤ w5.heap.size := he5.size
    have E5 : Eff g (g + 1) W w5 := E4.step he5 (by omega)
    have S5 := E5.size
    replace zr := zr.keep he5 (by omega)
    replace e_f0 := (he5.frozen e_0 (by simp only; omega)).trans e_f0
    replace e_f1 := (he5.frozen e_1 (by simp only; omega)).trans e_f1
    replace e_f2 := (he5.frozen e_2 (by simp only; omega)).trans e_f2
    replace e_f3 := (he5.frozen e_3 (by simp only; omega)).trans e_f3
    replace e_f4 := (he5.frozen e_4 (by simp only; omega)).trans e_f4
    replace e_f5 := (he5.frozen e_5 (by simp only; omega)).trans e_f5
    replace e_f6 := (he5.frozen e_6 (by simp only; omega)).trans e_f6
    replace e_0 := he5.cell e_0 (by simp only; omega)
    replace e_1 := he5.cell e_1 (by simp only; omega)
    replace e_2 := he5.cell e_2 (by simp only; omega)
    replace e_3 := he5.cell e_3 (by simp only; omega)
    replace e_4 := he5.cell e_4 (by simp only; omega)
    replace e_5 := he5.cell e_5 (by simp only; omega)
    replace e_6 := he5.cell e_6 (by simp only; omega)
    replace res_l := Nat.lt_of_lt_of_le res_l hz5
    replace e_l := Nat.lt_of_lt_of_le e_l hz5
    clear he
    go_upto_region 5 with fail
    have he6 : Eff (w2.heap.size) (w2.heap.size + 1) w5 (w5.setCell ⟨w2.heap.size, 0, none⟩ (.int .i64 z)) := eff_set _ _ _ _
    replace e_f0 := set_frozen (p := ⟨w2.heap.size, 0, none⟩) e_f0 (.int .i64 z)
    replace e_f1 := set_frozen (p := ⟨w2.heap.size, 0, none⟩) e_f1 (.int .i64 z)
    replace e_f2 := set_frozen (p := ⟨w2.heap.size, 0, none⟩) e_f2 (.int .i64 z)
    replace e_f3 := set_frozen (p := ⟨w2.heap.size, 0, none⟩) e_f3 (.int .i64 z)
    replace e_f4 := set_frozen (p := ⟨w2.heap.size, 0, none⟩) e_f4 (.int .i64 z)
    replace e_f5 := set_frozen (p := ⟨w2.heap.size, 0, none⟩) e_f5 (.int .i64 z)
    replace e_f6 := set_frozen (p := ⟨w2.heap.size, 0, none⟩) e_f6 (.int .i64 z)
    replace e_0 := set_same e_0 (.int .i64 z)
    replace e_1 := set_other (b' := w2.heap.size) (o' := 0) e_1 (.int .i64 z) (.inr (by omega))
    replace e_2 := set_other (b' := w2.heap.size) (o' := 0) e_2 (.int .i64 z) (.inr (by omega))
    replace e_3 := set_other (b' := w2.heap.size) (o' := 0) e_3 (.int .i64 z) (.inr (by omega))
    replace e_4 := set_other (b' := w2.heap.size) (o' := 0) e_4 (.int .i64 z) (.inr (by omega))
    replace e_5 := set_other (b' := w2.heap.size) (o' := 0) e_5 (.int .i64 z) (.inr (by omega))
    replace e_6 := set_other (b' := w2.heap.size) (o' := 0) e_6 (.int .i64 z) (.inr (by omega))
    have hz6 : w5.heap.size ≤ (w5.setCell ⟨w2.heap.size, 0, none⟩ (.int .i64 z)).heap.size := he6.size
    generalize (w5.setCell ⟨w2.heap.size, 0, none⟩ (.int .i64 z)) = w6 at *
    have E6 : Eff g (g + 1) W w6 := E5.step he6 (by omega)
    have S6 := E6.size
    replace zr := zr.keep he6 (by omega)
    replace res_l := Nat.lt_of_lt_of_le res_l hz6
    replace e_l := Nat.lt_of_lt_of_le e_l hz6
    replace hc := hc.keep he6 (by omega) (by omega)
    obtain ⟨res_0, res_1, res_2, res_3, res_4, res_5, res_6, res_f0, res_f1, res_f2, res_f3, res_f4, res_f5, res_f6⟩ := zr
    go_wp2_with fail
    have r0 : (((((((w6.setCell ⟨W.heap.size, 0, none⟩ (.int .i64 z)).setCell ⟨W.heap.size, 1, none⟩ (.int .i64 key)).setCell ⟨W.heap.size, 2, none⟩ (.int .i64 ch)).setCell ⟨W.heap.size, 3, none⟩ (.int .i64 to)).setCell ⟨W.heap.size, 4, none⟩ (.int .i64 amt)).setCell ⟨W.heap.size, 5, none⟩ (.int .i64 fee)).setCell ⟨W.heap.size, 6, none⟩ (.bool y)).cell? ⟨W.heap.size, 0, none⟩ = some (.int .i64 z) := set_other (set_other (set_other (set_other (set_other (set_other (set_same (res_0) _) _ (.inr (by omega))) _ (.inr (by omega))) _ (.inr (by omega))) _ (.inr (by omega))) _ (.inr (by omega))) _ (.inr (by omega))
    have r1 : (((((((w6.setCell ⟨W.heap.size, 0, none⟩ (.int .i64 z)).setCell ⟨W.heap.size, 1, none⟩ (.int .i64 key)).setCell ⟨W.heap.size, 2, none⟩ (.int .i64 ch)).setCell ⟨W.heap.size, 3, none⟩ (.int .i64 to)).setCell ⟨W.heap.size, 4, none⟩ (.int .i64 amt)).setCell ⟨W.heap.size, 5, none⟩ (.int .i64 fee)).setCell ⟨W.heap.size, 6, none⟩ (.bool y)).cell? ⟨W.heap.size, 1, none⟩ = some (.int .i64 key) := set_other (set_other (set_other (set_other (set_other (set_same (set_other (res_1) _ (.inr (by omega))) _) _ (.inr (by omega))) _ (.inr (by omega))) _ (.inr (by omega))) _ (.inr (by omega))) _ (.inr (by omega))
    have r2 : (((((((w6.setCell ⟨W.heap.size, 0, none⟩ (.int .i64 z)).setCell ⟨W.heap.size, 1, none⟩ (.int .i64 key)).setCell ⟨W.heap.size, 2, none⟩ (.int .i64 ch)).setCell ⟨W.heap.size, 3, none⟩ (.int .i64 to)).setCell ⟨W.heap.size, 4, none⟩ (.int .i64 amt)).setCell ⟨W.heap.size, 5, none⟩ (.int .i64 fee)).setCell ⟨W.heap.size, 6, none⟩ (.bool y)).cell? ⟨W.heap.size, 2, none⟩ = some (.int .i64 ch) := set_other (set_other (set_other (set_other (set_same (set_other (set_other (res_2) _ (.inr (by omega))) _ (.inr (by omega))) _) _ (.inr (by omega))) _ (.inr (by omega))) _ (.inr (by omega))) _ (.inr (by omega))
    have r3 : (((((((w6.setCell ⟨W.heap.size, 0, none⟩ (.int .i64 z)).setCell ⟨W.heap.size, 1, none⟩ (.int .i64 key)).setCell ⟨W.heap.size, 2, none⟩ (.int .i64 ch)).setCell ⟨W.heap.size, 3, none⟩ (.int .i64 to)).setCell ⟨W.heap.size, 4, none⟩ (.int .i64 amt)).setCell ⟨W.heap.size, 5, none⟩ (.int .i64 fee)).setCell ⟨W.heap.size, 6, none⟩ (.bool y)).cell? ⟨W.heap.size, 3, none⟩ = some (.int .i64 to) := set_other (set_other (set_other (set_same (set_other (set_other (set_other (res_3) _ (.inr (by omega))) _ (.inr (by omega))) _ (.inr (by omega))) _) _ (.inr (by omega))) _ (.inr (by omega))) _ (.inr (by omega))
    have r4 : (((((((w6.setCell ⟨W.heap.size, 0, none⟩ (.int .i64 z)).setCell ⟨W.heap.size, 1, none⟩ (.int .i64 key)).setCell ⟨W.heap.size, 2, none⟩ (.int .i64 ch)).setCell ⟨W.heap.size, 3, none⟩ (.int .i64 to)).setCell ⟨W.heap.size, 4, none⟩ (.int .i64 amt)).setCell ⟨W.heap.size, 5, none⟩ (.int .i64 fee)).setCell ⟨W.heap.size, 6, none⟩ (.bool y)).cell? ⟨W.heap.size, 4, none⟩ = some (.int .i64 amt) := set_other (set_other (set_same (set_other (set_other (set_other (set_other (res_4) _ (.inr (by omega))) _ (.inr (by omega))) _ (.inr (by omega))) _ (.inr (by omega))) _) _ (.inr (by omega))) _ (.inr (by omega))
    have r5 : (((((((w6.setCell ⟨W.heap.size, 0, none⟩ (.int .i64 z)).setCell ⟨W.heap.size, 1, none⟩ (.int .i64 key)).setCell ⟨W.heap.size, 2, none⟩ (.int .i64 ch)).setCell ⟨W.heap.size, 3, none⟩ (.int .i64 to)).setCell ⟨W.heap.size, 4, none⟩ (.int .i64 amt)).setCell ⟨W.heap.size, 5, none⟩ (.int .i64 fee)).setCell ⟨W.heap.size, 6, none⟩ (.bool y)).cell? ⟨W.heap.size, 5, none⟩ = some (.int .i64 fee) := set_other (set_same (set_other (set_other (set_other (set_other (set_other (res_5) _ (.inr (by omega))) _ (.inr (by omega))) _ (.inr (by omega))) _ (.inr (by omega))) _ (.inr (by omega))) _) _ (.inr (by omega))
    have r6 : (((((((w6.setCell ⟨W.heap.size, 0, none⟩ (.int .i64 z)).setCell ⟨W.heap.size, 1, none⟩ (.int .i64 key)).setCell ⟨W.heap.size, 2, none⟩ (.int .i64 ch)).setCell ⟨W.heap.size, 3, none⟩ (.int .i64 to)).setCell ⟨W.heap.size, 4, none⟩ (.int .i64 amt)).setCell ⟨W.heap.size, 5, none⟩ (.int .i64 fee)).setCell ⟨W.heap.size, 6, none⟩ (.bool y)).cell? ⟨W.heap.size, 6, none⟩ = some (.bool y) := set_same (set_other (set_other (set_other (set_other (set_other (set_other (res_6) _ (.inr (by omega))) _ (.inr (by omega))) _ (.inr (by omega))) _ (.inr (by omega))) _ (.inr (by omega))) _ (.inr (by omega))) _
    refine bodyPost_ret (v := .agg #[.int .i64 z, .int .i64 key, .int .i64 ch, .int .i64 to, .int .i64 amt, .int .i64 fee, .bool y]) (by simp [results, Tryd.results47, go_sem, r0, r1, r2, r3, r4, r5, r6]) rfl ?_
    exact EvPost.mk E6 hc (eff_set7 _ _ _ _ _ _ _ _ _) (by omega) (by omega)
  by_cases hq1 : q = 1
  · skip
    subst hq1
    go_wp2_with fail
    refine (l01Raw_any B g w4 hc).mono ?_
    rintro e w5 hpost
    obtain ⟨z, rfl, z_r, hc, he⟩ := hpost.eff
    clear hpost
    have he5 : Eff (g) (g + 1) w4 w5 := he
    have hz5 : w4.heap.size ≤ w5.heap.size := he5.size
    have E5 : Eff g (g + 1) W w5 := E4.step he5 (by omega)
    have S5 := E5.size
    replace zr := zr.keep he5 (by omega)
    replace e_f0 := (he5.frozen e_0 (by simp only; omega)).trans e_f0
    replace e_f1 := (he5.frozen e_1 (by simp only; omega)).trans e_f1
    replace e_f2 := (he5.frozen e_2 (by simp only; omega)).trans e_f2
    replace e_f3 := (he5.frozen e_3 (by simp only; omega)).trans e_f3
    replace e_f4 := (he5.frozen e_4 (by simp only; omega)).trans e_f4
    replace e_f5 := (he5.frozen e_5 (by simp only; omega)).trans e_f5
    replace e_f6 := (he5.frozen e_6 (by simp only; omega)).trans e_f6
    replace e_0 := he5.cell e_0 (by simp only; omega)
    replace e_1 := he5.cell e_1 (by simp only; omega)
    replace e_2 := he5.cell e_2 (by simp only; omega)
    replace e_3 := he5.cell e_3 (by simp only; omega)
    replace e_4 := he5.cell e_4 (by simp only; omega)
    replace e_5 := he5.cell e_5 (by simp only; omega)
    replace e_6 := he5.cell e_6 (by simp only; omega)
    replace res_l := Nat.lt_of_lt_of_le res_l hz5
    replace e_l := Nat.lt_of_lt_of_le e_l hz5
    clear he
    go_upto_region 7 with fail
    have he6 : Eff (w2.heap.size) (w2.heap.size + 1) w5 (w5.setCell ⟨w2.heap.size, 1, none⟩ (.int .i64 z)) := eff_set _ _ _ _
    replace e_f0 := set_frozen (p := ⟨w2.heap.size, 1, none⟩) e_f0 (.int .i64 z)
    replace e_f1 := set_frozen (p := ⟨w2.heap.size, 1, none⟩) e_f1 (.int .i64 z)
    replace e_f2 := set_frozen (p := ⟨w2.heap.size, 1, none⟩) e_f2 (.int .i64 z)
    replace e_f3 := set_frozen (p := ⟨w2.heap.size, 1, none⟩) e_f3 (.int .i64 z)
    replace e_f4 := set_frozen (p := ⟨w2.heap.size, 1, none⟩) e_f4 (.int .i64 z)
    replace e_f5 := set_frozen (p := ⟨w2.heap.size, 1, none⟩) e_f5 (.int .i64 z)
    replace e_f6 := set_frozen (p := ⟨w2.heap.size, 1, none⟩) e_f6 (.int .i64 z)
    replace e_0 := set_other (b' := w2.heap.size) (o' := 1) e_0 (.int .i64 z) (.inr (by omega))
    replace e_1 := set_same e_1 (.int .i64 z)
    replace e_2 := set_other (b' := w2.heap.size) (o' := 1) e_2 (.int .i64 z) (.inr (by omega))
    replace e_3 := set_other (b' := w2.heap.size) (o' := 1) e_3 (.int .i64 z) (.inr (by omega))
    replace e_4 := set_other (b' := w2.heap.size) (o' := 1) e_4 (.int .i64 z) (.inr (by omega))
    replace e_5 := set_other (b' := w2.heap.size) (o' := 1) e_5 (.int .i64 z) (.inr (by omega))
    replace e_6 := set_other (b' := w2.heap.size) (o' := 1) e_6 (.int .i64 z) (.inr (by omega))
    have hz6 : w5.heap.size ≤ (w5.setCell ⟨w2.heap.size, 1, none⟩ (.int .i64 z)).heap.size := he6.size
    generalize (w5.setCell ⟨w2.heap.size, 1, none⟩ (.int .i64 z)) = w6 at *
    have E6 : Eff g (g + 1) W w6 := E5.step he6 (by omega)
    have S6 := E6.size
    replace zr := zr.keep he6 (by omega)
    replace res_l := Nat.lt_of_lt_of_le res_l hz6
    replace e_l := Nat.lt_of_lt_of_le e_l hz6
    replace hc := hc.keep he6 (by omega) (by omega)
    obtain ⟨res_0, res_1, res_2, res_3, res_4, res_5, res_6, res_f0, res_f1, res_f2, res_f3, res_f4, res_f5, res_f6⟩ := zr
    go_wp2_with fail
    have r0 : (((((((w6.setCell ⟨W.heap.size, 0, none⟩ (.int .i64 k)).setCell ⟨W.heap.size, 1, none⟩ (.int .i64 z)).setCell ⟨W.heap.size, 2, none⟩ (.int .i64 ch)).setCell ⟨W.heap.size, 3, none⟩ (.int .i64 to)).setCell ⟨W.heap.size, 4, none⟩ (.int .i64 amt)).setCell ⟨W.heap.size, 5, none⟩ (.int .i64 fee)).setCell ⟨W.heap.size, 6, none⟩ (.bool y)).cell? ⟨W.heap.size, 0, none⟩ = some (.int .i64 k) := set_other (set_other (set_other (set_other (set_other (set_other (set_same (res_0) _) _ (.inr (by omega))) _ (.inr (by omega))) _ (.inr (by omega))) _ (.inr (by omega))) _ (.inr (by omega))) _ (.inr (by omega))
    have r1 : (((((((w6.setCell ⟨W.heap.size, 0, none⟩ (.int .i64 k)).setCell ⟨W.heap.size, 1, none⟩ (.int .i64 z)).setCell ⟨W.heap.size, 2, none⟩ (.int .i64 ch)).setCell ⟨W.heap.size, 3, none⟩ (.int .i64 to)).setCell ⟨W.heap.size, 4, none⟩ (.int .i64 amt)).setCell ⟨W.heap.size, 5, none⟩ (.int .i64 fee)).setCell ⟨W.heap.size, 6, none⟩ (.bool y)).cell? ⟨W.heap.size, 1, none⟩ = some (.int .i64 z) := set_other (set_other (set_other (set_other (set_other (set_same (set_other (res_1) _ (.inr (by omega))) _) _ (.inr (by omega))) _ (.inr (by omega))) _ (.inr (by omega))) _ (.inr (by omega))) _ (.inr (by omega))
    have r2 : (((((((w6.setCell ⟨W.heap.size, 0, none⟩ (.int .i64 k)).setCell ⟨W.heap.size, 1, none⟩ (.int .i64 z)).setCell ⟨W.heap.size, 2, none⟩ (.int .i64 ch)).setCell ⟨W.heap.size, 3, none⟩ (.int .i64 to)).setCell ⟨W.heap.size, 4, none⟩ (.int .i64 amt)).setCell ⟨W.heap.size, 5, none⟩ (.int .i64 fee)).setCell ⟨W.heap.size, 6, none⟩ (.bool y)).cell? ⟨W.heap.size, 2, none⟩ = some (.int .i64 ch) := set_other (set_other (set_other (set_other (set_same (set_other (set_other (res_2) _ (.inr (by omega))) _ (.inr (by omega))) _) _ (.inr (by omega))) _ (.inr (by omega))) _ (.inr (by omega))) _ (.inr (by omega))
    have r3 : (((((((w6.setCell ⟨W.heap.size, 0, none⟩ (.int .i64 k)).setCell ⟨W.heap.size, 1, none⟩ (.int .i64 z)).setCell ⟨W.heap.size, 2, none⟩ (.int .i64 ch)).setCell ⟨W.heap.size, 3, none⟩ (.int .i64 to)).setCell ⟨W.heap.size, 4, none⟩ (.int .i64 amt)).setCell ⟨W.heap.size, 5, none⟩ (.int .i64 fee)).setCell ⟨W.heap.size, 6, none⟩ (.bool y)).cell? ⟨W.heap.size, 3, none⟩ = some (.int .i64 to) := set_other (set_other (set_other (set_same (set_other (set_other (set_other (res_3) _ (.inr (by omega))) _ (.inr (by omega))) _ (.inr (by omega))) _) _ (.inr (by omega))) _ (.inr (by omega))) _ (.inr (by omega))
    have r4 : (((((((w6.setCell ⟨W.heap.size, 0, none⟩ (.int .i64 k)).setCell ⟨W.heap.size, 1, none⟩ (.int .i64 z)).setCell ⟨W.heap.size, 2, none⟩ (.int .i64 ch)).setCell ⟨W.heap.size, 3, none⟩ (.int .i64 to)).setCell ⟨W.heap.size, 4, none⟩ (.int .i64 amt)).setCell ⟨W.heap.size, 5, none⟩ (.int .i64 fee)).setCell ⟨W.heap.size, 6, none⟩ (.bool y)).cell? ⟨W.heap.size, 4, none⟩ = some (.int .i64 amt) := set_other (set_other (set_same (set_other (set_other (set_other (set_other (res_4) _ (.inr (by omega))) _ (.inr (by omega))) _ (.inr (by omega))) _ (.inr (by omega))) _) _ (.inr (by omega))) _ (.inr (by omega))
    have r5 : (((((((w6.setCell ⟨W.heap.size, 0, none⟩ (.int .i64 k)).setCell ⟨W.heap.size, 1, none⟩ (.int .i64 z)).setCell ⟨W.heap.size, 2, none⟩ (.int .i64 ch)).setCell ⟨W.heap.size, 3, none⟩ (.int .i64 to)).setCell ⟨W.heap.size, 4, none⟩ (.int .i64 amt)).setCell ⟨W.heap.size, 5, none⟩ (.int .i64 fee)).setCell ⟨W.heap.size, 6, none⟩ (.bool y)).cell? ⟨W.heap.size, 5, none⟩ = some (.int .i64 fee) := set_other (set_same (set_other (set_other (set_other (set_other (set_other (res_5) _ (.inr (by omega))) _ (.inr (by omega))) _ (.inr (by omega))) _ (.inr (by omega))) _ (.inr (by omega))) _) _ (.inr (by omega))
    have r6 : (((((((w6.setCell ⟨W.heap.size, 0, none⟩ (.int .i64 k)).setCell ⟨W.heap.size, 1, none⟩ (.int .i64 z)).setCell ⟨W.heap.size, 2, none⟩ (.int .i64 ch)).setCell ⟨W.heap.size, 3, none⟩ (.int .i64 to)).setCell ⟨W.heap.size, 4, none⟩ (.int .i64 amt)).setCell ⟨W.heap.size, 5, none⟩ (.int .i64 fee)).setCell ⟨W.heap.size, 6, none⟩ (.bool y)).cell? ⟨W.heap.size, 6, none⟩ = some (.bool y) := set_same (set_other (set_other (set_other (set_other (set_other (set_other (res_6) _ (.inr (by omega))) _ (.inr (by omega))) _ (.inr (by omega))) _ (.inr (by omega))) _ (.inr (by omega))) _ (.inr (by omega))) _
    refine bodyPost_ret (v := .agg #[.int .i64 k, .int .i64 z, .int .i64 ch, .int .i64 to, .int .i64 amt, .int .i64 fee, .bool y]) (by simp [results, Tryd.results47, go_sem, r0, r1, r2, r3, r4, r5, r6]) rfl ?_
    exact EvPost.mk E6 hc (eff_set7 _ _ _ _ _ _ _ _ _) (by omega) (by omega)
  by_cases hq2 : q = 2
  · skip
    subst hq2
    go_wp2_with fail
    refine (l01Raw_any B g w4 hc).mono ?_
    rintro e w5 hpost
    obtain ⟨z, rfl, z_r, hc, he⟩ := hpost.eff
    clear hpost
    have he5 : Eff (g) (g + 1) w4 w5 := he
    have hz5 : w4.heap.size ≤ w5.heap.size := he5.size
    have E5 : Eff g (g + 1) W w5 := E4.step he5 (by omega)
    have S5 := E5.size
    replace zr := zr.keep he5 (by omega)
    replace e_f0 := (he5.frozen e_0 (by simp only; omega)).trans e_f0
    replace e_f1 := (he5.frozen e_1 (by simp only; omega)).trans e_f1
    replace e_f2 := (he5.frozen e_2 (by simp only; omega)).trans e_f2
    replace e_f3 := (he5.frozen e_3 (by simp only; omega)).trans e_f3
    replace e_f4 := (he5.frozen e_4 (by simp only; omega)).trans e_f4
    replace e_f5 := (he5.frozen e_5 (by simp only; omega)).trans e_f5
    replace e_f6 := (he5.frozen e_6 (by simp only; omega)).trans e_f6
    replace e_0 := he5.cell e_0 (by simp only; omega)
    replace e_1 := he5.cell e_1 (by simp only; omega)
    replace e_2 := he5.cell e_2 (by simp only; omega)
    replace e_3 := he5.cell e_3 (by simp only; omega)
    replace e_4 := he5.cell e_4 (by simp only; omega)
    replace e_5 := he5.cell e_5 (by simp only; omega)
    replace e_6 := he5.cell e_6 (by simp only; omega)
    replace res_l := Nat.lt_of_lt_of_le res_l hz5
    replace e_l := Nat.lt_of_lt_of_le e_l hz5
    clear he
    go_upto_region 9 with fail
    have he6 : Eff (w2.heap.size) (w2.heap.size + 1) w5 (w5.setCell ⟨w2.heap.size, 2, none⟩ (.int .i64 z)) := eff_set _ _ _ _
    replace e_f0 := set_frozen (p := ⟨w2.heap.size, 2, none⟩) e_f0 (.int .i64 z)
    replace e_f1 := set_frozen (p := ⟨w2.heap.size, 2, none⟩) e_f1 (.int .i64 z)
    replace e_f2 := set_frozen (p := ⟨w2.heap.size, 2, none⟩) e_f2 (.int .i64 z)
    replace e_f3 := set_frozen (p := ⟨w2.heap.size, 2, none⟩) e_f3 (.int .i64 z)
    replace e_f4 := set_frozen (p := ⟨w2.heap.size, 2, none⟩) e_f4 (.int .i64 z)
    replace e_f5 := set_frozen (p := ⟨w2.heap.size, 2, none⟩) e_f5 (.int .i64 z)
    replace e_f6 := set_frozen (p := ⟨w2.heap.size, 2, none⟩) e_f6 (.int .i64 z)
    replace e_0 := set_other (b' := w2.heap.size) (o' := 2) e_0 (.int .i64 z) (.inr (by omega))
    replace e_1 := set_other (b' := w2.heap.size) (o' := 2) e_1 (.int .i64 z) (.inr (by omega))
    replace e_2 := set_same e_2 (.int .i64 z)
    replace e_3 := set_other (b' := w2.heap.size) (o' := 2) e_3 (.int .i64 z) (.inr (by omega))
    replace e_4 := set_other (b' := w2.heap.size) (o' := 2) e_4 (.int .i64 z) (.inr (by omega))
    replace e_5 := set_other (b' := w2.heap.size) (o' := 2) e_5 (.int .i64 z) (.inr (by omega))
    replace e_6 := set_other (b' := w2.heap.size) (o' := 2) e_6 (.int .i64 z) (.inr (by omega))
    have hz6 : w5.heap.size ≤ (w5.setCell ⟨w2.heap.size, 2, none⟩ (.int .i64 z)).heap.size := he6.size
    generalize (w5.setCell ⟨w2.heap.size, 2, none⟩ (.int .i64 z)) = w6 at *
    have E6 : Eff g (g + 1) W w6 := E5.step he6 (by omega)
    have S6 := E6.size
    replace zr := zr.keep he6 (by omega)
    replace res_l := Nat.lt_of_lt_of_le res_l hz6
    replace e_l := Nat.lt_of_lt_of_le e_l hz6
    replace hc := hc.keep he6 (by omega) (by omega)
    obtain ⟨res_0, res_1, res_2, res_3, res_4, res_5, res_6, res_f0, res_f1, res_f2, res_f3, res_f4, res_f5, res_f6⟩ := zr
    go_wp2_with fail
    have r0 : (((((((w6.setCell ⟨W.heap.size, 0, none⟩ (.int .i64 k)).setCell ⟨W.heap.size, 1, none⟩ (.int .i64 key)).setCell ⟨W.heap.size, 2, none⟩ (.int .i64 z)).setCell ⟨W.heap.size, 3, none⟩ (.int .i64 to)).setCell ⟨W.heap.size, 4, none⟩ (.int .i64 amt)).setCell ⟨W.heap.size, 5, none⟩ (.int .i64 fee)).setCell ⟨W.heap.size, 6, none⟩ (.bool y)).cell? ⟨W.heap.size, 0, none⟩ = some (.int .i64 k) := set_other (set_other (set_other (set_other (set_other (set_other (set_same (res_0) _) _ (.inr (by omega))) _ (.inr (by omega))) _ (.inr (by omega))) _ (.inr (by omega))) _ (.inr (by omega))) _ (.inr (by omega))
    have r1 : (((((((w6.setCell ⟨W.heap.size, 0, none⟩ (.int .i64 k)).setCell ⟨W.heap.size, 1, none⟩ (.int .i64 key)).setCell ⟨W.heap.size, 2, none⟩ (.int .i64 z)).setCell ⟨W.heap.size, 3, none⟩ (.int .i64 to)).setCell ⟨W.heap.size, 4, none⟩ (.int .i64 amt)).setCell ⟨W.heap.size, 5, none⟩ (.int .i64 fee)).setCell ⟨W.heap.size, 6, none⟩ (.bool y)).cell? ⟨W.heap.size, 1, none⟩ = some (.int .i64 key) := set_other (set_other (set_other (set_other (set_other (set_same (set_other (res_1) _ (.inr (by omega))) _) _ (.inr (by omega))) _ (.inr (by omega))) _ (.inr (by omega))) _ (.inr (by omega))) _ (.inr (by omega))
    have r2 : (((((((w6.setCell ⟨W.heap.size, 0, none⟩ (.int .i64 k)).setCell ⟨W.heap.size, 1, none⟩ (.int .i64 key)).setCell ⟨W.heap.size, 2, none⟩ (.int .i64 z)).setCell ⟨W.heap.size, 3, none⟩ (.int .i64 to)).setCell ⟨W.heap.size, 4, none⟩ (.int .i64 amt)).setCell ⟨W.heap.size, 5, none⟩ (.int .i64 fee)).setCell ⟨W.heap.size, 6, none⟩ (.bool y)).cell? ⟨W.heap.size, 2, none⟩ = some (.int .i64 z) := set_other (set_other (set_other (set_other (set_same (set_other (set_other (res_2) _ (.inr (by omega))) _ (.inr (by omega))) _) _ (.inr (by omega))) _ (.inr (by omega))) _ (.inr (by omega))) _ (.inr (by omega))
    have r3 : (((((((w6.setCell ⟨W.heap.size, 0, none⟩ (.int .i64 k)).setCell ⟨W.heap.size, 1, none⟩ (.int .i64 key)).setCell ⟨W.heap.size, 2, none⟩ (.int .i64 z)).setCell ⟨W.heap.size, 3, none⟩ (.int .i64 to)).setCell ⟨W.heap.size, 4, none⟩ (.int .i64 amt)).setCell ⟨W.heap.size, 5, none⟩ (.int .i64 fee)).setCell ⟨W.heap.size, 6, none⟩ (.bool y)).cell? ⟨W.heap.size, 3, none⟩ = some (.int .i64 to) := set_other (set_other (set_other (set_same (set_other (set_other (set_other (res_3) _ (.inr (by omega))) _ (.inr (by omega))) _ (.inr (by omega))) _) _ (.inr (by omega))) _ (.inr (by omega))) _ (.inr (by omega))
    have r4 : (((((((w6.setCell ⟨W.heap.size, 0, none⟩ (.int .i64 k)).setCell ⟨W.heap.size, 1, none⟩ (.int .i64 key)).setCell ⟨W.heap.size, 2, none⟩ (.int .i64 z)).setCell ⟨W.heap.size, 3, none⟩ (.int .i64 to)).setCell ⟨W.heap.size, 4, none⟩ (.int .i64 amt)).setCell ⟨W.heap.size, 5, none⟩ (.int .i64 fee)).setCell ⟨W.heap.size, 6, none⟩ (.bool y)).cell? ⟨W.heap.size, 4, none⟩ = some (.int .i64 amt) := set_other (set_other (set_same (set_other (set_other (set_other (set_other (res_4) _ (.inr (by omega))) _ (.inr (by omega))) _ (.inr (by omega))) _ (.inr (by omega))) _) _ (.inr (by omega))) _ (.inr (by omega))
    have r5 : (((((((w6.setCell ⟨W.heap.size, 0, none⟩ (.int .i64 k)).setCell ⟨W.heap.size, 1, none⟩ (.int .i64 key)).setCell ⟨W.heap.size, 2, none⟩ (.int .i64 z)).setCell ⟨W.heap.size, 3, none⟩ (.int .i64 to)).setCell ⟨W.heap.size, 4, none⟩ (.int .i64 amt)).setCell ⟨W.heap.size, 5, none⟩ (.int .i64 fee)).setCell ⟨W.heap.size, 6, none⟩ (.bool y)).cell? ⟨W.heap.size, 5, none⟩ = some (.int .i64 fee) := set_other (set_same (set_other (set_other (set_other (set_other (set_other (res_5) _ (.inr (by omega))) _ (.inr (by omega))) _ (.inr (by omega))) _ (.inr (by omega))) _ (.inr (by omega))) _) _ (.inr (by omega))
    have r6 : (((((((w6.setCell ⟨W.heap.size, 0, none⟩ (.int .i64 k)).setCell ⟨W.heap.size, 1, none⟩ (.int .i64 key)).setCell ⟨W.heap.size, 2, none⟩ (.int .i64 z)).setCell ⟨W.heap.size, 3, none⟩ (.int .i64 to)).setCell ⟨W.heap.size, 4, none⟩ (.int .i64 amt)).setCell ⟨W.heap.size, 5, none⟩ (.int .i64 fee)).setCell ⟨W.heap.size, 6, none⟩ (.bool y)).cell? ⟨W.heap.size, 6, none⟩ = some (.bool y) := set_same (set_other (set_other (set_other (set_other (set_other (set_other (res_6) _ (.inr (by omega))) _ (.inr (by omega))) _ (.inr (by omega))) _ (.inr (by omega))) _ (.inr (by omega))) _ (.inr (by omega))) _
    refine bodyPost_ret (v := .agg #[.int .i64 k, .int .i64 key, .int .i64 z, .int .i64 to, .int .i64 amt, .int .i64 fee, .bool y]) (by simp [results, Tryd.results47, go_sem, r0, r1, r2, r3, r4, r5, r6]) rfl ?_
    exact EvPost.mk E6 hc (eff_set7 _ _ _ _ _ _ _ _ _) (by omega) (by omega)
  by_cases hq3 : q = 3
  · skip
    subst hq3
    go_upto_region 11 with fail
    have he5 : Eff (w2.heap.size) (w2.heap.size + 1) w4 (w4.setCell ⟨w2.heap.size, 3, none⟩ (.int .i64 ch)) := eff_set _ _ _ _
    replace e_f0 := set_frozen (p := ⟨w2.heap.size, 3, none⟩) e_f0 (.int .i64 ch)
    replace e_f1 := set_frozen (p := ⟨w2.heap.size, 3, none⟩) e_f1 (.int .i64 ch)
    replace e_f2 := set_frozen (p := ⟨w2.heap.size, 3, none⟩) e_f2 (.int .i64 ch)
    replace e_f3 := set_frozen (p := ⟨w2.heap.size, 3, none⟩) e_f3 (.int .i64 ch)
    replace e_f4 := set_frozen (p := ⟨w2.heap.size, 3, none⟩) e_f4 (.int .i64 ch)
    replace e_f5 := set_frozen (p := ⟨w2.heap.size, 3, none⟩) e_f5 (.int .i64 ch)
    replace e_f6 := set_frozen (p := ⟨w2.heap.size, 3, none⟩) e_f6 (.int .i64 ch)
    replace e_0 := set_other (b' := w2.heap.size) (o' := 3) e_0 (.int .i64 ch) (.inr (by omega))
    replace e_1 := set_other (b' := w2.heap.size) (o' := 3) e_1 (.int .i64 ch) (.inr (by omega))
    replace e_2 := set_other (b' := w2.heap.size) (o' := 3) e_2 (.int .i64 ch) (.inr (by omega))
    replace e_3 := set_same e_3 (.int .i64 ch)
    replace e_4 := set_other (b' := w2.heap.size) (o' := 3) e_4 (.int .i64 ch) (.inr (by omega))
    replace e_5 := set_other (b' := w2.heap.size) (o' := 3) e_5 (.int .i64 ch) (.inr (by omega))
    replace e_6 := set_other (b' := w2.heap.size) (o' := 3) e_6 (.int .i64 ch) (.inr (by omega))
    have hz5 : w4.heap.size ≤ (w4.setCell ⟨w2.heap.size, 3, none⟩ (.int .i64 ch)).heap.size := he5.size
    generalize (w4.setCell ⟨w2.heap.size, 3, none⟩ (.int .i64 ch)) = w5 at *
    have E5 : Eff g (g + 1) W w5 := E4.step he5 (by omega)
    have S5 := E5.size
    replace zr := zr.keep he5 (by omega)
    replace res_l := Nat.lt_of_lt_of_le res_l hz5
    replace e_l := Nat.lt_of_lt_of_le e_l hz5
    replace hc := hc.keep he5 (by omega) (by omega)
    obtain ⟨res_0, res_1, res_2, res_3, res_4, res_5, res_6, res_f0, res_f1, res_f2, res_f3, res_f4, res_f5, res_f6⟩ := zr
    go_wp2_with fail
    have r0 : (((((((w5.setCell ⟨W.heap.size, 0, none⟩ (.int .i64 k)).setCell ⟨W.heap.size, 1, none⟩ (.int .i64 key)).setCell ⟨W.heap.size, 2, none⟩ (.int .i64 ch)).setCell ⟨W.heap.size, 3, none⟩ (.int .i64 ch)).setCell ⟨W.heap.size, 4, none⟩ (.int .i64 amt)).setCell ⟨W.heap.size, 5, none⟩ (.int .i64 fee)).setCell ⟨W.heap.size, 6, none⟩ (.bool y)).cell? ⟨W.heap.size, 0, none⟩ = some (.int .i64 k) := set_other (set_other (set_other (set_other (set_other (set_other (set_same (res_0) _) _ (.inr (by omega))) _ (.inr (by omega))) _ (.inr (by omega))) _ (.inr (by omega))) _ (.inr (by omega))) _ (.inr (by omega))
    have r1 : (((((((w5.setCell ⟨W.heap.size, 0, none⟩ (.int .i64 k)).setCell ⟨W.heap.size, 1, none⟩ (.int .i64 key)).setCell ⟨W.heap.size, 2, none⟩ (.int .i64 ch)).setCell ⟨W.heap.size, 3, none⟩ (.int .i64 ch)).setCell ⟨W.heap.size, 4, none⟩ (.int .i64 amt)).setCell ⟨W.heap.size, 5, none⟩ (.int .i64 fee)).setCell ⟨W.heap.size, 6, none⟩ (.bool y)).cell? ⟨W.heap.size, 1, none⟩ = some (.int .i64 key) := set_other (set_other (set_other (set_other (set_other (set_same (set_other (res_1) _ (.inr (by omega))) _) _ (.inr (by omega))) _ (.inr (by omega))) _ (.inr (by omega))) _ (.inr (by omega))) _ (.inr (by omega))
    have r2 : (((((((w5.setCell ⟨W.heap.size, 0, none⟩ (.int .i64 k)).setCell ⟨W.heap.size, 1, none⟩ (.int .i64 key)).setCell ⟨W.heap.size, 2, none⟩ (.int .i64 ch)).setCell ⟨W.heap.size, 3, none⟩ (.int .i64 ch)).setCell ⟨W.heap.size, 4, none⟩ (.int .i64 amt)).setCell ⟨W.heap.size, 5, none⟩ (.int .i64 fee)).setCell ⟨W.heap.size, 6, none⟩ (.bool y)).cell? ⟨W.heap.size, 2, none⟩ = some (.int .i64 ch) := set_other (set_other (set_other (set_other (set_same (set_other (set_other (res_2) _ (.inr (by omega))) _ (.inr (by omega))) _) _ (.inr (by omega))) _ (.inr (by omega))) _ (.inr (by omega))) _ (.inr (by omega))
    have r3 : (((((((w5.setCell ⟨W.heap.size, 0, none⟩ (.int .i64 k)).setCell ⟨W.heap.size, 1, none⟩ (.int .i64 key)).setCell ⟨W.heap.size, 2, none⟩ (.int .i64 ch)).setCell ⟨W.heap.size, 3, none⟩ (.int .i64 ch)).setCell ⟨W.heap.size, 4, none⟩ (.int .i64 amt)).setCell ⟨W.heap.size, 5, none⟩ (.int .i64 fee)).setCell ⟨W.heap.size, 6, none⟩ (.bool y)).cell? ⟨W.heap.size, 3, none⟩ = some (.int .i64 ch) := set_other (set_other (set_other (set_same (set_other (set_other (set_other (res_3) _ (.inr (by omega))) _ (.inr (by omega))) _ (.inr (by omega))) _) _ (.inr (by omega))) _ (.inr (by omega))) _ (.inr (by omega))
    have r4 : (((((((w5.setCell ⟨W.heap.size, 0, none⟩ (.int .i64 k)).setCell ⟨W.heap.size, 1, none⟩ (.int .i64 key)).setCell ⟨W.heap.size, 2, none⟩ (.int .i64 ch)).setCell ⟨W.heap.size, 3, none⟩ (.int .i64 ch)).setCell ⟨W.heap.size, 4, none⟩ (.int .i64 amt)).setCell ⟨W.heap.size, 5, none⟩ (.int .i64 fee)).setCell ⟨W.heap.size, 6, none⟩ (.bool y)).cell? ⟨W.heap.size, 4, none⟩ = some (.int .i64 amt) := set_other (set_other (set_same (set_other (set_other (set_other (set_other (res_4) _ (.inr (by omega))) _ (.inr (by omega))) _ (.inr (by omega))) _ (.inr (by omega))) _) _ (.inr (by omega))) _ (.inr (by omega))
    have r5 : (((((((w5.setCell ⟨W.heap.size, 0, none⟩ (.int .i64 k)).setCell ⟨W.heap.size, 1, none⟩ (.int .i64 key)).setCell ⟨W.heap.size, 2, none⟩ (.int .i64 ch)).setCell ⟨W.heap.size, 3, none⟩ (.int .i64 ch)).setCell ⟨W.heap.size, 4, none⟩ (.int .i64 amt)).setCell ⟨W.heap.size, 5, none⟩ (.int .i64 fee)).setCell ⟨W.heap.size, 6, none⟩ (.bool y)).cell? ⟨W.heap.size, 5, none⟩ = some (.int .i64 fee) := set_other (set_same (set_other (set_other (set_other (set_other (set_other (res_5) _ (.inr (by omega))) _ (.inr (by omega))) _ (.inr (by omega))) _ (.inr (by omega))) _ (.inr (by omega))) _) _ (.inr (by omega))
    have r6 : (((((((w5.setCell ⟨W.heap.size, 0, none⟩ (.int .i64 k)).setCell ⟨W.heap.size, 1, none⟩ (.int .i64 key)).setCell ⟨W.heap.size, 2, none⟩ (.int .i64 ch)).setCell ⟨W.heap.size, 3, none⟩ (.int .i64 ch)).setCell ⟨W.heap.size, 4, none⟩ (.int .i64 amt)).setCell ⟨W.heap.size, 5, none⟩ (.int .i64 fee)).setCell ⟨W.heap.size, 6, none⟩ (.bool y)).cell? ⟨W.heap.size, 6, none⟩ = some (.bool y) := set_same (set_other (set_other (set_other (set_other (set_other (set_other (res_6) _ (.inr (by omega))) _ (.inr (by omega))) _ (.inr (by omega))) _ (.inr (by omega))) _ (.inr (by omega))) _ (.inr (by omega))) _
    refine bodyPost_ret (v := .agg #[.int .i64 k, .int .i64 key, .int .i64 ch, .int .i64 ch, .int .i64 amt, .int .i64 fee, .bool y]) (by simp [results, Tryd.results47, go_sem, r0, r1, r2, r3, r4, r5, r6]) rfl ?_
    exact EvPost.mk E5 hc (eff_set7 _ _ _ _ _ _ _ _ _) (by omega) (by omega)
  by_cases hq4 : q = 4
  · skip
    subst hq4
    go_wp2_with fail
    refine (l01Raw_any B g w4 hc).mono ?_
    rintro e w5 hpost
    obtain ⟨z, rfl, z_r, hc, he⟩ := hpost.eff
    clear hpost
    have he5 : Eff (g) (g + 1) w4 w5 := he
    have hz5 : w4.heap.size ≤ w5.heap.size := he5.size
    have E5 : Eff g (g + 1) W w5 := E4.step he5 (by omega)
    have S5 := E5.size
    replace zr := zr.keep he5 (by omega)
    replace e_f0 := (he5.frozen e_0 (by simp only; omega)).trans e_f0
    replace e_f1 := (he5.frozen e_1 (by simp only; omega)).trans e_f1
    replace e_f2 := (he5.frozen e_2 (by simp only; omega)).trans e_f2
    replace e_f3 := (he5.frozen e_3 (by simp only; omega)).trans e_f3
    replace e_f4 := (he5.frozen e_4 (by simp only; omega)).trans e_f4
    replace e_f5 := (he5.frozen e_5 (by simp only; omega)).trans e_f5
    replace e_f6 := (he5.frozen e_6 (by simp only; omega)).trans e_f6
    replace e_0 := he5.cell e_0 (by simp only; omega)
    replace e_1 := he5.cell e_1 (by simp only; omega)
    replace e_2 := he5.cell e_2 (by simp only; omega)
    replace e_3 := he5.cell e_3 (by simp only; omega)
    replace e_4 := he5.cell e_4 (by simp only; omega)
    replace e_5 := he5.cell e_5 (by simp only; omega)
    replace e_6 := he5.cell e_6 (by simp only; omega)
    replace res_l := Nat.lt_of_lt_of_le res_l hz5
    replace e_l := Nat.lt_of_lt_of_le e_l hz5
    clear he
    go_upto_region 13 with fail
    have he6 : Eff (w2.heap.size) (w2.heap.size + 1) w5 (w5.setCell ⟨w2.heap.size, 4, none⟩ (.int .i64 z)) := eff_set _ _ _ _
    replace e_f0 := set_frozen (p := ⟨w2.heap.size, 4, none⟩) e_f0 (.int .i64 z)
    replace e_f1 := set_frozen (p := ⟨w2.heap.size, 4, none⟩) e_f1 (.int .i64 z)
    replace e_f2 := set_frozen (p := ⟨w2.heap.size, 4, none⟩) e_f2 (.int .i64 z)
    replace e_f3 := set_frozen (p := ⟨w2.heap.size, 4, none⟩) e_f3 (.int .i64 z)
    replace e_f4 := set_frozen (p := ⟨w2.heap.size, 4, none⟩) e_f4 (.int .i64 z)
    replace e_f5 := set_frozen (p := ⟨w2.heap.size, 4, none⟩) e_f5 (.int .i64 z)
    replace e_f6 := set_frozen (p := ⟨w2.heap.size, 4, none⟩) e_f6 (.int .i64 z)
    replace e_0 := set_other (b' := w2.heap.size) (o' := 4) e_0 (.int .i64 z) (.inr (by omega))
    replace e_1 := set_other (b' := w2.heap.size) (o' := 4) e_1 (.int .i64 z) (.inr (by omega))
    replace e_2 := set_other (b' := w2.heap.size) (o' := 4) e_2 (.int .i64 z) (.inr (by omega))
    replace e_3 := set_other (b' := w2.heap.size) (o' := 4) e_3 (.int .i64 z) (.inr (by omega))
    replace e_4 := set_same e_4 (.int .i64 z)
    replace e_5 := set_other (b' := w2.heap.size) (o' := 4) e_5 (.int .i64 z) (.inr (by omega))
    replace e_6 := set_other (b' := w2.heap.size) (o' := 4) e_6 (.int .i64 z) (.inr (by omega))
    have hz6 : w5.heap.size ≤ (w5.setCell ⟨w2.heap.size, 4, none⟩ (.int .i64 z)).heap.size := he6.size
    generalize (w5.setCell ⟨w2.heap.size, 4, none⟩ (.int .i64 z)) = w6 at *
    have E6 : Eff g (g + 1) W w6 := E5.step he6 (by omega)
    have S6 := E6.size
    replace zr := zr.keep he6 (by omega)
    replace res_l := Nat.lt_of_lt_of_le res_l hz6
    replace e_l := Nat.lt_of_lt_of_le e_l hz6
    replace hc := hc.keep he6 (by omega) (by omega)
    obtain ⟨res_0, res_1, res_2, res_3, res_4, res_5, res_6, res_f0, res_f1, res_f2, res_f3, res_f4, res_f5, res_f6⟩ := zr
    go_wp2_with fail
    have r0 : (((((((w6.setCell ⟨W.heap.size, 0, none⟩ (.int .i64 k)).setCell ⟨W.heap.size, 1, none⟩ (.int .i64 key)).setCell ⟨W.heap.size, 2, none⟩ (.int .i64 ch)).setCell ⟨W.heap.size, 3, none⟩ (.int .i64 to)).setCell ⟨W.heap.size, 4, none⟩ (.int .i64 z)).setCell ⟨W.heap.size, 5, none⟩ (.int .i64 fee)).setCell ⟨W.heap.size, 6, none⟩ (.bool y)).cell? ⟨W.heap.size, 0, none⟩ = some (.int .i64 k) := set_other (set_other (set_other (set_other (set_other (set_other (set_same (res_0) _) _ (.inr (by omega))) _ (.inr (by omega))) _ (.inr (by omega))) _ (.inr (by omega))) _ (.inr (by omega))) _ (.inr (by omega))
    have r1 : (((((((w6.setCell ⟨W.heap.size, 0, none⟩ (.int .i64 k)).setCell ⟨W.heap.size, 1, none⟩ (.int .i64 key)).setCell ⟨W.heap.size, 2, none⟩ (.int .i64 ch)).setCell ⟨W.heap.size, 3, none⟩ (.int .i64 to)).setCell ⟨W.heap.size, 4, none⟩ (.int .i64 z)).setCell ⟨W.heap.size, 5, none⟩ (.int .i64 fee)).setCell ⟨W.heap.size, 6, none⟩ (.bool y)).cell? ⟨W.heap.size, 1, none⟩ = some (.int .i64 key) := set_other (set_other (set_other (set_other (set_other (set_same (set_other (res_1) _ (.inr (by omega))) _) _ (.inr (by omega))) _ (.inr (by omega))) _ (.inr (by omega))) _ (.inr (by omega))) _ (.inr (by omega))
    have r2 : (((((((w6.setCell ⟨W.heap.size, 0, none⟩ (.int .i64 k)).setCell ⟨W.heap.size, 1, none⟩ (.int .i64 key)).setCell ⟨W.heap.size, 2, none⟩ (.int .i64 ch)).setCell ⟨W.heap.size, 3, none⟩ (.int .i64 to)).setCell ⟨W.heap.size, 4, none⟩ (.int .i64 z)).setCell ⟨W.heap.size, 5, none⟩ (.int .i64 fee)).setCell ⟨W.heap.size, 6, none⟩ (.bool y)).cell? ⟨W.heap.size, 2, none⟩ = some (.int .i64 ch) := set_other (set_other (set_other (set_other (set_same (set_other (set_other (res_2) _ (.inr (by omega))) _ (.inr (by omega))) _) _ (.inr (by omega))) _ (.inr (by omega))) _ (.inr (by omega))) _ (.inr (by omega))
    have r3 : (((((((w6.setCell ⟨W.heap.size, 0, none⟩ (.int .i64 k)).setCell ⟨W.heap.size, 1, none⟩ (.int .i64 key)).setCell ⟨W.heap.size, 2, none⟩ (.int .i64 ch)).setCell ⟨W.heap.size, 3, none⟩ (.int .i64 to)).setCell ⟨W.heap.size, 4, none⟩ (.int .i64 z)).setCell ⟨W.heap.size, 5, none⟩ (.int .i64 fee)).setCell ⟨W.heap.size, 6, none⟩ (.bool y)).cell? ⟨W.heap.size, 3, none⟩ = some (.int .i64 to) := set_other (set_other (set_other (set_same (set_other (set_other (set_other (res_3) _ (.inr (by omega))) _ (.inr (by omega))) _ (.inr (by omega))) _) _ (.inr (by omega))) _ (.inr (by omega))) _ (.inr (by omega))
    have r4 : (((((((w6.setCell ⟨W.heap.size, 0, none⟩ (.int .i64 k)).setCell ⟨W.heap.size, 1, none⟩ (.int .i64 key)).setCell ⟨W.heap.size, 2, none⟩ (.int .i64 ch)).setCell ⟨W.heap.size, 3, none⟩ (.int .i64 to)).setCell ⟨W.heap.size, 4, none⟩ (.int .i64 z)).setCell ⟨W.heap.size, 5, none⟩ (.int .i64 fee)).setCell ⟨W.heap.size, 6, none⟩ (.bool y)).cell? ⟨W.heap.size, 4, none⟩ = some (.int .i64 z) := set_other (set_other (set_same (set_other (set_other (set_other (set_other (res_4) _ (.inr (by omega))) _ (.inr (by omega))) _ (.inr (by omega))) _ (.inr (by omega))) _) _ (.inr (by omega))) _ (.inr (by omega))
    have r5 : (((((((w6.setCell ⟨W.heap.size, 0, none⟩ (.int .i64 k)).setCell ⟨W.heap.size, 1, none⟩ (.int .i64 key)).setCell ⟨W.heap.size, 2, none⟩ (.int .i64 ch)).setCell ⟨W.heap.size, 3, none⟩ (.int .i64 to)).setCell ⟨W.heap.size, 4, none⟩ (.int .i64 z)).setCell ⟨W.heap.size, 5, none⟩ (.int .i64 fee)).setCell ⟨W.heap.size, 6, none⟩ (.bool y)).cell? ⟨W.heap.size, 5, none⟩ = some (.int .i64 fee) := set_other (set_same (set_other (set_other (set_other (set_other (set_other (res_5) _ (.inr (by omega))) _ (.inr (by omega))) _ (.inr (by omega))) _ (.inr (by omega))) _ (.inr (by omega))) _) _ (.inr (by omega))
    have r6 : (((((((w6.setCell ⟨W.heap.size, 0, none⟩ (.int .i64 k)).setCell ⟨W.heap.size, 1, none⟩ (.int .i64 key)).setCell ⟨W.heap.size, 2, none⟩ (.int .i64 ch)).setCell ⟨W.heap.size, 3, none⟩ (.int .i64 to)).setCell ⟨W.heap.size, 4, none⟩ (.int .i64 z)).setCell ⟨W.heap.size, 5, none⟩ (.int .i64 fee)).setCell ⟨W.heap.size, 6, none⟩ (.bool y)).cell? ⟨W.heap.size, 6, none⟩ = some (.bool y) := set_same (set_other (set_other (set_other (set_other (set_other (set_other (res_6) _ (.inr (by omega))) _ (.inr (by omega))) _ (.inr (by omega))) _ (.inr (by omega))) _ (.inr (by omega))) _ (.inr (by omega))) _
    refine bodyPost_ret (v := .agg #[.int .i64 k, .int .i64 key, .int .i64 ch, .int .i64 to, .int .i64 z, .int .i64 fee, .bool y]) (by simp [results, Tryd.results47, go_sem, r0, r1, r2, r3, r4, r5, r6]) rfl ?_
    exact EvPost.mk E6 hc (eff_set7 _ _ _ _ _ _ _ _ _) (by omega) (by omega)
  by_cases hq5 : q = 5
  · skip
    subst hq5
    go_wp2_with fail
    refine (l01Raw_any B g w4 hc).mono ?_
    rintro e w5 hpost
    obtain ⟨z, rfl, z_r, hc, he⟩ := hpost.eff
    clear hpost
    have he5 : Eff (g) (g + 1) w4 w5 := he
    have hz5 : w4.heap.size ≤ w5.heap.size := he5.size
    have E5 : Eff g (g + 1) W w5 := E4.step he5 (by omega)
    have S5 := E5.size
    replace zr := zr.keep he5 (by omega)
    replace e_f0 := (he5.frozen e_0 (by simp only; omega)).trans e_f0
    replace e_f1 := (he5.frozen e_1 (by simp only; omega)).trans e_f1
    replace e_f2 := (he5.frozen e_2 (by simp only; omega)).trans e_f2
    replace e_f3 := (he5.frozen e_3 (by simp only; omega)).trans e_f3
    replace e_f4 := (he5.frozen e_4 (by simp only; omega)).trans e_f4
    replace e_f5 := (he5.frozen e_5 (by simp only; omega)).trans e_f5
    replace e_f6 := (he5.frozen e_6 (by simp only; omega)).trans e_f6
    replace e_0 := he5.cell e_0 (by simp only; omega)
    replace e_1 := he5.cell e_1 (by simp only; omega)
    replace e_2 := he5.cell e_2 (by simp only; omega)
    replace e_3 := he5.cell e_3 (by simp only; omega)
    replace e_4 := he5.cell e_4 (by simp only; omega)
    replace e_5 := he5.cell e_5 (by simp only; omega)
    replace e_6 := he5.cell e_6 (by simp only; omega)
    replace res_l := Nat.lt_of_lt_of_le res_l hz5
    replace e_l := Nat.lt_of_lt_of_le e_l hz5
    clear he
    go_upto_region 15 with fail
    have he6 : Eff (w2.heap.size) (w2.heap.size + 1) w5 (w5.setCell ⟨w2.heap.size, 5, none⟩ (.int .i64 z)) := eff_set _ _ _ _
    replace e_f0 := set_frozen (p := ⟨w2.heap.size, 5, none⟩) e_f0 (.int .i64 z)
    replace e_f1 := set_frozen (p := ⟨w2.heap.size, 5, none⟩) e_f1 (.int .i64 z)
    replace e_f2 := set_frozen (p := ⟨w2.heap.size, 5, none⟩) e_f2 (.int .i64 z)
    replace e_f3 := set_frozen (p := ⟨w2.heap.size, 5, none⟩) e_f3 (.int .i64 z)
    replace e_f4 := set_frozen (p := ⟨w2.heap.size, 5, none⟩) e_f4 (.int .i64 z)
    replace e_f5 := set_frozen (p := ⟨w2.heap.size, 5, none⟩) e_f5 (.int .i64 z)
    replace e_f6 := set_frozen (p := ⟨w2.heap.size, 5, none⟩) e_f6 (.int .i64 z)
    replace e_0 := set_other (b' := w2.heap.size) (o' := 5) e_0 (.int .i64 z) (.inr (by omega))
    replace e_1 := set_other (b' := w2.heap.size) (o' := 5) e_1 (.int .i64 z) (.inr (by omega))
    replace e_2 := set_other (b' := w2.heap.size) (o' := 5) e_2 (.int .i64 z) (.inr (by omega))
    replace e_3 := set_other (b' := w2.heap.size) (o' := 5) e_3 (.int .i64 z) (.inr (by omega))
    replace e_4 := set_other (b' := w2.heap.size) (o' := 5) e_4 (.int .i64 z) (.inr (by omega))
    replace e_5 := set_same e_5 (.int .i64 z)
    replace e_6 := set_other (b' := w2.heap.size) (o' := 5) e_6 (.int .i64 z) (.inr (by omega))
    have hz6 : w5.heap.size ≤ (w5.setCell ⟨w2.heap.size, 5, none⟩ (.int .i64 z)).heap.size := he6.size
    generalize (w5.setCell ⟨w2.heap.size, 5, none⟩ (.int .i64 z)) = w6 at *
    have E6 : Eff g (g + 1) W w6 := E5.step he6 (by omega)
    have S6 := E6.size
    replace zr := zr.keep he6 (by omega)
    replace res_l := Nat.lt_of_lt_of_le res_l hz6
    replace e_l := Nat.lt_of_lt_of_le e_l hz6
    replace hc := hc.keep he6 (by omega) (by omega)
    obtain ⟨res_0, res_1, res_2, res_3, res_4, res_5, res_6, res_f0, res_f1, res_f2, res_f3, res_f4, res_f5, res_f6⟩ := zr
    go_wp2_with fail
    have r0 : (((((((w6.setCell ⟨W.heap.size, 0, none⟩ (.int .i64 k)).setCell ⟨W.heap.size, 1, none⟩ (.int .i64 key)).setCell ⟨W.heap.size, 2, none⟩ (.int .i64 ch)).setCell ⟨W.heap.size, 3, none⟩ (.int .i64 to)).setCell ⟨W.heap.size, 4, none⟩ (.int .i64 amt)).setCell ⟨W.heap.size, 5, none⟩ (.int .i64 z)).setCell ⟨W.heap.size, 6, none⟩ (.bool y)).cell? ⟨W.heap.size, 0, none⟩ = some (.int .i64 k) := set_other (set_other (set_other (set_other (set_other (set_other (set_same (res_0) _) _ (.inr (by omega))) _ (.inr (by omega))) _ (.inr (by omega))) _ (.inr (by omega))) _ (.inr (by omega))) _ (.inr (by omega))
    have r1 : (((((((w6.setCell ⟨W.heap.size, 0, none⟩ (.int .i64 k)).setCell ⟨W.heap.size, 1, none⟩ (.int .i64 key)).setCell ⟨W.heap.size, 2, none⟩ (.int .i64 ch)).setCell ⟨W.heap.size, 3, none⟩ (.int .i64 to)).setCell ⟨W.heap.size, 4, none⟩ (.int .i64 amt)).setCell ⟨W.heap.size, 5, none⟩ (.int .i64 z)).setCell ⟨W.heap.size, 6, none⟩ (.bool y)).cell? ⟨W.heap.size, 1, none⟩ = some (.int .i64 key) := set_other (set_other (set_other (set_other (set_other (set_same (set_other (res_1) _ (.inr (by omega))) _) _ (.inr (by omega))) _ (.inr (by omega))) _ (.inr (by omega))) _ (.inr (by omega))) _ (.inr (by omega))
    have r2 : (((((((w6.setCell ⟨W.heap.size, 0, none⟩ (.int .i64 k)).setCell ⟨W.heap.size, 1, none⟩ (.int .i64 key)).setCell ⟨W.heap.size, 2, none⟩ (.int .i64 ch)).setCell ⟨W.heap.size, 3, none⟩ (.int .i64 to)).setCell ⟨W.heap.size, 4, none⟩ (.int .i64 amt)).setCell ⟨W.heap.size, 5, none⟩ (.int .i64 z)).setCell ⟨W.heap.size, 6, none⟩ (.bool y)).cell? ⟨W.heap.size, 2, none⟩ = some (.int .i64 ch) := set_other (set_other (set_other (set_other (set_same (set_other (set_other (res_2) _ (.inr (by omega))) _ (.inr (by omega))) _) _ (.inr (by omega))) _ (.inr (by omega))) _ (.inr (by omega))) _ (.inr (by omega))
    have r3 : (((((((w6.setCell ⟨W.heap.size, 0, none⟩ (.int .i64 k)).setCell ⟨W.heap.size, 1, none⟩ (.int .i64 key)).setCell ⟨W.heap.size, 2, none⟩ (.int .i64 ch)).setCell ⟨W.heap.size, 3, none⟩ (.int .i64 to)).setCell ⟨W.heap.size, 4, none⟩ (.int .i64 amt)).setCell ⟨W.heap.size, 5, none⟩ (.int .i64 z)).setCell ⟨W.heap.size, 6, none⟩ (.bool y)).cell? ⟨W.heap.size, 3, none⟩ = some (.int .i64 to) := set_other (set_other (set_other (set_same (set_other (set_other (set_other (res_3) _ (.inr (by omega))) _ (.inr (by omega))) _ (.inr (by omega))) _) _ (.inr (by omega))) _ (.inr (by omega))) _ (.inr (by omega))
    have r4 : (((((((w6.setCell ⟨W.heap.size, 0, none⟩ (.int .i64 k)).setCell ⟨W.heap.size, 1, none⟩ (.int .i64 key)).setCell ⟨W.heap.size, 2, none⟩ (.int .i64 ch)).setCell ⟨W.heap.size, 3, none⟩ (.int .i64 to)).setCell ⟨W.heap.size, 4, none⟩ (.int .i64 amt)).setCell ⟨W.heap.size, 5, none⟩ (.int .i64 z)).setCell ⟨W.heap.size, 6, none⟩ (.bool y)).cell? ⟨W.heap.size, 4, none⟩ = some (.int .i64 amt) := set_other (set_other (set_same (set_other (set_other (set_other (set_other (res_4) _ (.inr (by omega))) _ (.inr (by omega))) _ (.inr (by omega))) _ (.inr (by omega))) _) _ (.inr (by omega))) _ (.inr (by omega))
    have r5 : (((((((w6.setCell ⟨W.heap.size, 0, none⟩ (.int .i64 k)).setCell ⟨W.heap.size, 1, none⟩ (.int .i64 key)).setCell ⟨W.heap.size, 2, none⟩ (.int .i64 ch)).setCell ⟨W.heap.size, 3, none⟩ (.int .i64 to)).setCell ⟨W.heap.size, 4, none⟩ (.int .i64 amt)).setCell ⟨W.heap.size, 5, none⟩ (.int .i64 z)).setCell ⟨W.heap.size, 6, none⟩ (.bool y)).cell? ⟨W.heap.size, 5, none⟩ = some (.int .i64 z) := set_other (set_same (set_other (set_other (set_other (set_other (set_other (res_5) _ (.inr (by omega))) _ (.inr (by omega))) _ (.inr (by omega))) _ (.inr (by omega))) _ (.inr (by omega))) _) _ (.inr (by omega))
    have r6 : (((((((w6.setCell ⟨W.heap.size, 0, none⟩ (.int .i64 k)).setCell ⟨W.heap.size, 1, none⟩ (.int .i64 key)).setCell ⟨W.heap.size, 2, none⟩ (.int .i64 ch)).setCell ⟨W.heap.size, 3, none⟩ (.int .i64 to)).setCell ⟨W.heap.size, 4, none⟩ (.int .i64 amt)).setCell ⟨W.heap.size, 5, none⟩ (.int .i64 z)).setCell ⟨W.heap.size, 6, none⟩ (.bool y)).cell? ⟨W.heap.size, 6, none⟩ = some (.bool y) := set_same (set_other (set_other (set_other (set_other (set_other (set_other (res_6) _ (.inr (by omega))) _ (.inr (by omega))) _ (.inr (by omega))) _ (.inr (by omega))) _ (.inr (by omega))) _ (.inr (by omega))) _
    refine bodyPost_ret (v := .agg #[.int .i64 k, .int .i64 key, .int .i64 ch, .int .i64 to, .int .i64 amt, .int .i64 z, .bool y]) (by simp [results, Tryd.results47, go_sem, r0, r1, r2, r3, r4, r5, r6]) rfl ?_
    exact EvPost.mk E6 hc (eff_set7 _ _ _ _ _ _ _ _ _) (by omega) (by omega)
  by_cases hq6 : q = 6
  · skip
    subst hq6
    go_upto_region 17 with fail
    have he5 : Eff (w2.heap.size) (w2.heap.size + 1) w4 (w4.setCell ⟨w2.heap.size, 6, none⟩ (.bool (!y))) := eff_set _ _ _ _
    replace e_f0 := set_frozen (p := ⟨w2.heap.size, 6, none⟩) e_f0 (.bool (!y))
    replace e_f1 := set_frozen (p := ⟨w2.heap.size, 6, none⟩) e_f1 (.bool (!y))
    replace e_f2 := set_frozen (p := ⟨w2.heap.size, 6, none⟩) e_f2 (.bool (!y))
    replace e_f3 := set_frozen (p := ⟨w2.heap.size, 6, none⟩) e_f3 (.bool (!y))
    replace e_f4 := set_frozen (p := ⟨w2.heap.size, 6, none⟩) e_f4 (.bool (!y))
    replace e_f5 := set_frozen (p := ⟨w2.heap.size, 6, none⟩) e_f5 (.bool (!y))
    replace e_f6 := set_frozen (p := ⟨w2.heap.size, 6, none⟩) e_f6 (.bool (!y))
    replace e_0 := set_other (b' := w2.heap.size) (o' := 6) e_0 (.bool (!y)) (.inr (by omega))
    replace e_1 := set_other (b' := w2.heap.size) (o' := 6) e_1 (.bool (!y)) (.inr (by omega))
    replace e_2 := set_other (b' := w2.heap.size) (o' := 6) e_2 (.bool (!y)) (.inr (by omega))
    replace e_3 := set_other (b' := w2.heap.size) (o' := 6) e_3 (.bool (!y)) (.inr (by omega))
    replace e_4 := set_other (b' := w2.heap.size) (o' := 6) e_4 (.bool (!y)) (.inr (by omega))
    replace e_5 := set_other (b' := w2.heap.size) (o' := 6) e_5 (.bool (!y)) (.inr (by omega))
    replace e_6 := set_same e_6 (.bool (!y))
    have hz5 : w4.heap.size ≤ (w4.setCell ⟨w2.heap.size, 6, none⟩ (.bool (!y))).heap.size := he5.size
    generalize (w4.setCell ⟨w2.heap.size, 6, none⟩ (.bool (!y))) = w5 at *
    have E5 : Eff g (g + 1) W w5 := E4.step he5 (by omega)
    have S5 := E5.size
    replace zr := zr.keep he5 (by omega)
    replace res_l := Nat.lt_of_lt_of_le res_l hz5
    replace e_l := Nat.lt_of_lt_of_le e_l hz5
    replace hc := hc.keep he5 (by omega) (by omega)
    obtain ⟨res_0, res_1, res_2, res_3, res_4, res_5, res_6, res_f0, res_f1, res_f2, res_f3, res_f4, res_f5, res_f6⟩ := zr
    go_wp2_with fail
    have r0 : (((((((w5.setCell ⟨W.heap.size, 0, none⟩ (.int .i64 k)).setCell ⟨W.heap.size, 1, none⟩ (.int .i64 key)).setCell ⟨W.heap.size, 2, none⟩ (.int .i64 ch)).setCell ⟨W.heap.size, 3, none⟩ (.int .i64 to)).setCell ⟨W.heap.size, 4, none⟩ (.int .i64 amt)).setCell ⟨W.heap.size, 5, none⟩ (.int .i64 fee)).setCell ⟨W.heap.size, 6, none⟩ (.bool (!y))).cell? ⟨W.heap.size, 0, none⟩ = some (.int .i64 k) := set_other (set_other (set_other (set_other (set_other (set_other (set_same (res_0) _) _ (.inr (by omega))) _ (.inr (by omega))) _ (.inr (by omega))) _ (.inr (by omega))) _ (.inr (by omega))) _ (.inr (by omega))
    have r1 : (((((((w5.setCell ⟨W.heap.size, 0, none⟩ (.int .i64 k)).setCell ⟨W.heap.size, 1, none⟩ (.int .i64 key)).setCell ⟨W.heap.size, 2, none⟩ (.int .i64 ch)).setCell ⟨W.heap.size, 3, none⟩ (.int .i64 to)).setCell ⟨W.heap.size, 4, none⟩ (.int .i64 amt)).setCell ⟨W.heap.size, 5, none⟩ (.int .i64 fee)).setCell ⟨W.heap.size, 6, none⟩ (.bool (!y))).cell? ⟨W.heap.size, 1, none⟩ = some (.int .i64 key) := set_other (set_other (set_other (set_other (set_other (set_same (set_other (res_1) _ (.inr (by omega))) _) _ (.inr (by omega))) _ (.inr (by omega))) _ (.inr (by omega))) _ (.inr (by omega))) _ (.inr (by omega))
    have r2 : (((((((w5.setCell ⟨W.heap.size, 0, none⟩ (.int .i64 k)).setCell ⟨W.heap.size, 1, none⟩ (.int .i64 key)).setCell ⟨W.heap.size, 2, none⟩ (.int .i64 ch)).setCell ⟨W.heap.size, 3, none⟩ (.int .i64 to)).setCell ⟨W.heap.size, 4, none⟩ (.int .i64 amt)).setCell ⟨W.heap.size, 5, none⟩ (.int .i64 fee)).setCell ⟨W.heap.size, 6, none⟩ (.bool (!y))).cell? ⟨W.heap.size, 2, none⟩ = some (.int .i64 ch) := set_other (set_other (set_other (set_other (set_same (set_other (set_other (res_2) _ (.inr (by omega))) _ (.inr (by omega))) _) _ (.inr (by omega))) _ (.inr (by omega))) _ (.inr (by omega))) _ (.inr (by omega))
    have r3 : (((((((w5.setCell ⟨W.heap.size, 0, none⟩ (.int .i64 k)).setCell ⟨W.heap.size, 1, none⟩ (.int .i64 key)).setCell ⟨W.heap.size, 2, none⟩ (.int .i64 ch)).setCell ⟨W.heap.size, 3, none⟩ (.int .i64 to)).setCell ⟨W.heap.size, 4, none⟩ (.int .i64 amt)).setCell ⟨W.heap.size, 5, none⟩ (.int .i64 fee)).setCell ⟨W.heap.size, 6, none⟩ (.bool (!y))).cell? ⟨W.heap.size, 3, none⟩ = some (.int .i64 to) := set_other (set_other (set_other (set_same (set_other (set_other (set_other (res_3) _ (.inr (by omega))) _ (.inr (by omega))) _ (.inr (by omega))) _) _ (.inr (by omega))) _ (.inr (by omega))) _ (.inr (by omega))
    have r4 : (((((((w5.setCell ⟨W.heap.size, 0, none⟩ (.int .i64 k)).setCell ⟨W.heap.size, 1, none⟩ (.int .i64 key)).setCell ⟨W.heap.size, 2, none⟩ (.int .i64 ch)).setCell ⟨W.heap.size, 3, none⟩ (.int .i64 to)).setCell ⟨W.heap.size, 4, none⟩ (.int .i64 amt)).setCell ⟨W.heap.size, 5, none⟩ (.int .i64 fee)).setCell ⟨W.heap.size, 6, none⟩ (.bool (!y))).cell? ⟨W.heap.size, 4, none⟩ = some (.int .i64 amt) := set_other (set_other (set_same (set_other (set_other (set_other (set_other (res_4) _ (.inr (by omega))) _ (.inr (by omega))) _ (.inr (by omega))) _ (.inr (by omega))) _) _ (.inr (by omega))) _ (.inr (by omega))
    have r5 : (((((((w5.setCell ⟨W.heap.size, 0, none⟩ (.int .i64 k)).setCell ⟨W.heap.size, 1, none⟩ (.int .i64 key)).setCell ⟨W.heap.size, 2, none⟩ (.int .i64 ch)).setCell ⟨W.heap.size, 3, none⟩ (.int .i64 to)).setCell ⟨W.heap.size, 4, none⟩ (.int .i64 amt)).setCell ⟨W.heap.size, 5, none⟩ (.int .i64 fee)).setCell ⟨W.heap.size, 6, none⟩ (.bool (!y))).cell? ⟨W.heap.size, 5, none⟩ = some (.int .i64 fee) := set_other (set_same (set_other (set_other (set_other (set_other (set_other (res_5) _ (.inr (by omega))) _ (.inr (by omega))) _ (.inr (by omega))) _ (.inr (by omega))) _ (.inr (by omega))) _) _ (.inr (by omega))
    have r6 : (((((((w5.setCell ⟨W.heap.size, 0, none⟩ (.int .i64 k)).setCell ⟨W.heap.size, 1, none⟩ (.int .i64 key)).setCell ⟨W.heap.size, 2, none⟩ (.int .i64 ch)).setCell ⟨W.heap.size, 3, none⟩ (.int .i64 to)).setCell ⟨W.heap.size, 4, none⟩ (.int .i64 amt)).setCell ⟨W.heap.size, 5, none⟩ (.int .i64 fee)).setCell ⟨W.heap.size, 6, none⟩ (.bool (!y))).cell? ⟨W.heap.size, 6, none⟩ = some (.bool (!y)) := set_same (set_other (set_other (set_other (set_other (set_other (set_other (res_6) _ (.inr (by omega))) _ (.inr (by omega))) _ (.inr (by omega))) _ (.inr (by omega))) _ (.inr (by omega))) _ (.inr (by omega))) _
    refine bodyPost_ret (v := .agg #[.int .i64 k, .int .i64 key, .int .i64 ch, .int .i64 to, .int .i64 amt, .int .i64 fee, .bool (!y)]) (by simp [results, Tryd.results47, go_sem, r0, r1, r2, r3, r4, r5, r6]) rfl ?_
    exact EvPost.mk E5 hc (eff_set7 _ _ _ _ _ _ _ _ _) (by omega) (by omega)
  have n0 : (q == 0) = false := by simp; omega
  have n1 : (q == 1) = false := by simp; omega
  have n2 : (q == 2) = false := by simp; omega
  have n3 : (q == 3) = false := by simp; omega
  have n4 : (q == 4) = false := by simp; omega
  have n5 : (q == 5) = false := by simp; omega
  have n6 : (q == 6) = false := by simp; omega
  obtain ⟨res_0, res_1, res_2, res_3, res_4, res_5, res_6, res_f0, res_f1, res_f2, res_f3, res_f4, res_f5, res_f6⟩ := zr
  go_wp2_with fail
  have r0 : (((((((w4.setCell ⟨W.heap.size, 0, none⟩ (.int .i64 k)).setCell ⟨W.heap.size, 1, none⟩ (.int .i64 key)).setCell ⟨W.heap.size, 2, none⟩ (.int .i64 ch)).setCell ⟨W.heap.size, 3, none⟩ (.int .i64 to)).setCell ⟨W.heap.size, 4, none⟩ (.int .i64 amt)).setCell ⟨W.heap.size, 5, none⟩ (.int .i64 fee)).setCell ⟨W.heap.size, 6, none⟩ (.bool y)).cell? ⟨W.heap.size, 0, none⟩ = some (.int .i64 k) := set_other (set_other (set_other (set_other (set_other (set_other (set_same (res_0) _) _ (.inr (by omega))) _ (.inr (by omega))) _ (.inr (by omega))) _ (.inr (by omega))) _ (.inr (by omega))) _ (.inr (by omega))
  have r1 : (((((((w4.setCell ⟨W.heap.size, 0, none⟩ (.int .i64 k)).setCell ⟨W.heap.size, 1, none⟩ (.int .i64 key)).setCell ⟨W.heap.size, 2, none⟩ (.int .i64 ch)).setCell ⟨W.heap.size, 3, none⟩ (.int .i64 to)).setCell ⟨W.heap.size, 4, none⟩ (.int .i64 amt)).setCell ⟨W.heap.size, 5, none⟩ (.int .i64 fee)).setCell ⟨W.heap.size, 6, none⟩ (.bool y)).cell? ⟨W.heap.size, 1, none⟩ = some (.int .i64 key) := set_other (set_other (set_other (set_other (set_other (set_same (set_other (res_1) _ (.inr (by omega))) _) _ (.inr (by omega))) _ (.inr (by omega))) _ (.inr (by omega))) _ (.inr (by omega))) _ (.inr (by omega))
  have r2 : (((((((w4.setCell ⟨W.heap.size, 0, none⟩ (.int .i64 k)).setCell ⟨W.heap.size, 1, none⟩ (.int .i64 key)).setCell ⟨W.heap.size, 2, none⟩ (.int .i64 ch)).setCell ⟨W.heap.size, 3, none⟩ (.int .i64 to)).setCell ⟨W.heap.size, 4, none⟩ (.int .i64 amt)).setCell ⟨W.heap.size, 5, none⟩ (.int .i64 fee)).setCell ⟨W.heap.size, 6, none⟩ (.bool y)).cell? ⟨W.heap.size, 2, none⟩ = some (.int .i64 ch) := set_other (set_other (set_other (set_other (set_same (set_other (set_other (res_2) _ (.inr (by omega))) _ (.inr (by omega))) _) _ (.inr (by omega))) _ (.inr (by omega))) _ (.inr (by omega))) _ (.inr (by omega))
  have r3 : (((((((w4.setCell ⟨W.heap.size, 0, none⟩ (.int .i64 k)).setCell ⟨W.heap.size, 1, none⟩ (.int .i64 key)).setCell ⟨W.heap.size, 2, none⟩ (.int .i64 ch)).setCell ⟨W.heap.size, 3, none⟩ (.int .i64 to)).setCell ⟨W.heap.size, 4, none⟩ (.int .i64 amt)).setCell ⟨W.heap.size, 5, none⟩ (.int .i64 fee)).setCell ⟨W.heap.size, 6, none⟩ (.bool y)).cell? ⟨W.heap.size, 3, none⟩ = some (.int .i64 to) := set_other (set_other (set_other (set_same (set_other (set_other (set_other (res_3) _ (.inr (by omega))) _ (.inr (by omega))) _ (.inr (by omega))) _) _ (.inr (by omega))) _ (.inr (by omega))) _ (.inr (by omega))
  have r4 : (((((((w4.setCell ⟨W.heap.size, 0, none⟩ (.int .i64 k)).setCell ⟨W.heap.size, 1, none⟩ (.int .i64 key)).setCell ⟨W.heap.size, 2, none⟩ (.int .i64 ch)).setCell ⟨W.heap.size, 3, none⟩ (.int .i64 to)).setCell ⟨W.heap.size, 4, none⟩ (.int .i64 amt)).setCell ⟨W.heap.size, 5, none⟩ (.int .i64 fee)).setCell ⟨W.heap.size, 6, none⟩ (.bool y)).cell? ⟨W.heap.size, 4, none⟩ = some (.int .i64 amt) := set_other (set_other (set_same (set_other (set_other (set_other (set_other (res_4) _ (.inr (by omega))) _ (.inr (by omega))) _ (.inr (by omega))) _ (.inr (by omega))) _) _ (.inr (by omega))) _ (.inr (by omega))
  have r5 : (((((((w4.setCell ⟨W.heap.size, 0, none⟩ (.int .i64 k)).setCell ⟨W.heap.size, 1, none⟩ (.int .i64 key)).setCell ⟨W.heap.size, 2, none⟩ (.int .i64 ch)).setCell ⟨W.heap.size, 3, none⟩ (.int .i64 to)).setCell ⟨W.heap.size, 4, none⟩ (.int .i64 amt)).setCell ⟨W.heap.size, 5, none⟩ (.int .i64 fee)).setCell ⟨W.heap.size, 6, none⟩ (.bool y)).cell? ⟨W.heap.size, 5, none⟩ = some (.int .i64 fee) := set_other (set_same (set_other (set_other (set_other (set_other (set_other (res_5) _ (.inr (by omega))) _ (.inr (by omega))) _ (.inr (by omega))) _ (.inr (by omega))) _ (.inr (by omega))) _) _ (.inr (by omega))
  have r6 : (((((((w4.setCell ⟨W.heap.size, 0, none⟩ (.int .i64 k)).setCell ⟨W.heap.size, 1, none⟩ (.int .i64 key)).setCell ⟨W.heap.size, 2, none⟩ (.int .i64 ch)).setCell ⟨W.heap.size, 3, none⟩ (.int .i64 to)).setCell ⟨W.heap.size, 4, none⟩ (.int .i64 amt)).setCell ⟨W.heap.size, 5, none⟩ (.int .i64 fee)).setCell ⟨W.heap.size, 6, none⟩ (.bool y)).cell? ⟨W.heap.size, 6, none⟩ = some (.bool y) := set_same (set_other (set_other (set_other (set_other (set_other (set_other (res_6) _ (.inr (by omega))) _ (.inr (by omega))) _ (.inr (by omega))) _ (.inr (by omega))) _ (.inr (by omega))) _ (.inr (by omega))) _
  refine bodyPost_ret (v := .agg #[.int .i64 k, .int .i64 key, .int .i64 ch, .int .i64 to, .int .i64 amt, .int .i64 fee, .bool y]) (by simp [results, Tryd.results47, go_sem, r0, r1, r2, r3, r4, r5, r6]) rfl ?_
  exact EvPost.mk E4 hc (eff_set7 _ _ _ _ _ _ _ _ _) (by omega) (by omega)
set_option maxHeartbeats 1000000 in
set_option maxRecDepth 100000 in
theorem DrawEventBody_any (W : World) (A : Option Addr) (n c : Nat) (l : List UInt8) (hr : Rd W W.heap.size 1 A n (Lib.byteCells l)) (hn : n ≤ 1048576) : Calls Tryd.prog 19 #[.slice A n c] W fun e w' => ∃ (k key ch to amt fee : Int) (y : Bool), e = .returned (.agg #[.int .i64 k, .int .i64 key, .int .i64 ch, .int .i64 to, .int .i64 amt, .int .i64 fee, .bool y]) ∧ Below W.heap.size W w' := by
  go_enter Tryd.func19, Tryd.ntmps19
  go_wp2_with fail
  have he1 : Eff 0 0 W (W.alloc (.cells #[.int .i64 0, .int .i64 0, .int .i64 0, .int .i64 0, .int .i64 0, .int .i64 0, .bool false] 32)) := Eff.alloc _ _
  have hs1 : (W.alloc (.cells #[.int .i64 0, .int .i64 0, .int .i64 0, .int .i64 0, .int .i64 0, .int .i64 0, .bool false] 32)).heap.size = W.heap.size + 1 := (by simp)
  have res_0 : (W.alloc (.cells #[.int .i64 0, .int .i64 0, .int .i64 0, .int .i64 0, .int .i64 0, .int .i64 0, .bool false] 32)).cell? ⟨W.heap.size, 0, none⟩ = some (.int .i64 0) := var_cell _ _ _ _ _ rfl
  have res_1 : (W.alloc (.cells #[.int .i64 0, .int .i64 0, .int .i64 0, .int .i64 0, .int .i64 0, .int .i64 0, .bool false] 32)).cell? ⟨W.heap.size, 1, none⟩ = some (.int .i64 0) := var_cell _ _ _ _ _ rfl
  have res_2 : (W.alloc (.cells #[.int .i64 0, .int .i64 0, .int .i64 0, .int .i64 0, .int .i64 0, .int .i64 0, .bool false] 32)).cell? ⟨W.heap.size, 2, none⟩ = some (.int .i64 0) := var_cell _ _ _ _ _ rfl
  have res_3 : (W.alloc (.cells #[.int .i64 0, .int .i64 0, .int .i64 0, .int .i64 0, .int .i64 0, .int .i64 0, .bool false] 32)).cell? ⟨W.heap.size, 3, none⟩ = some (.int .i64 0) := var_cell _ _ _ _ _ rfl
  have res_4 : (W.alloc (.cells #[.int .i64 0, .int .i64 0, .int .i64 0, .int .i64 0, .int .i64 0, .int .i64 0, .bool false] 32)).cell? ⟨W.heap.size, 4, none⟩ = some (.int .i64 0) := var_cell _ _ _ _ _ rfl
  have res_5 : (W.alloc (.cells #[.int .i64 0, .int .i64 0, .int .i64 0, .int .i64 0, .int .i64 0, .int .i64 0, .bool false] 32)).cell? ⟨W.heap.size, 5, none⟩ = some (.int .i64 0) := var_cell _ _ _ _ _ rfl
  have res_6 : (W.alloc (.cells #[.int .i64 0, .int .i64 0, .int .i64 0, .int .i64 0, .int .i64 0, .int .i64 0, .bool false] 32)).cell? ⟨W.heap.size, 6, none⟩ = some (.bool false) := var_cell _ _ _ _ _ rfl
  have res_f0 : (W.alloc (.cells #[.int .i64 0, .int .i64 0, .int .i64 0, .int .i64 0, .int .i64 0, .int .i64 0, .bool false] 32)).frozen? ⟨W.heap.size, 0, none⟩ = false := var_frozen _ _ _ _
  have res_f1 : (W.alloc (.cells #[.int .i64 0, .int .i64 0, .int .i64 0, .int .i64 0, .int .i64 0, .int .i64 0, .bool false] 32)).frozen? ⟨W.heap.size, 1, none⟩ = false := var_frozen _ _ _ _
  have res_f2 : (W.alloc (.cells #[.int .i64 0, .int .i64 0, .int .i64 0, .int .i64 0, .int .i64 0, .int .i64 0, .bool false] 32)).frozen? ⟨W.heap.size, 2, none⟩ = false := var_frozen _ _ _ _
  have res_f3 : (W.alloc (.cells #[.int .i64 0, .int .i64 0, .int .i64 0, .int .i64 0, .int .i64 0, .int .i64 0, .bool false] 32)).frozen? ⟨W.heap.size, 3, none⟩ = false := var_frozen _ _ _ _
  have res_f4 : (W.alloc (.cells #[.int .i64 0, .int .i64 0, .int .i64 0, .int .i64 0, .int .i64 0, .int .i64 0, .bool false] 32)).frozen? ⟨W.heap.size, 4, none⟩ = false := var_frozen _ _ _ _
  have res_f5 : (W.alloc (.cells #[.int .i64 0, .int .i64 0, .int .i64 0, .int .i64 0, .int .i64 0, .int .i64 0, .bool false] 32)).frozen? ⟨W.heap.size, 5, none⟩ = false := var_frozen _ _ _ _
  have res_f6 : (W.alloc (.cells #[.int .i64 0, .int .i64 0, .int .i64 0, .int .i64 0, .int .i64 0, .int .i64 0, .bool false] 32)).frozen? ⟨W.heap.size, 6, none⟩ = false := var_frozen _ _ _ _
  generalize (W.alloc (.cells #[.int .i64 0, .int .i64 0, .int .i64 0, .int .i64 0, .int .i64 0, .int .i64 0, .bool false] 32)) = w1 at *
  have hz1 : W.heap.size ≤ w1.heap.size := he1.size
  have b1 : Below W.heap.size W w1 := he1.below (Nat.le_refl _) (by omega)
  replace hr := (hr.below (he1.below (B := W.heap.size) (by omega) (by omega)) (Nat.le_refl _))
  have res_l : W.heap.size < w1.heap.size := (by omega)
  go_wp2_with fail
  refine (l01New_any w1 A n c l (hr.more (by omega)) hn).mono ?_
  rintro e w2 ⟨g, hgE, rfl, hc, hb⟩
  have hg1 : w1.heap.size ≤ g := by omega
  have hg2 := hc.lt
  clear hgE
  have he2 : Eff 0 0 w1 w2 := Eff.of hb
  have hz2 : w1.heap.size ≤ w2.heap.size := he2.size
  have b2 : Below W.heap.size W w2 := b1.trans (he2.below b1.size (by omega))
  replace hr := (hr.below (he2.below (B := W.heap.size) (by omega) (by omega)) (Nat.le_refl _))
  replace res_f0 := (he2.frozen res_0 (by simp only; omega)).trans res_f0
  replace res_f1 := (he2.frozen res_1 (by simp only; omega)).trans res_f1
  replace res_f2 := (he2.frozen res_2 (by simp only; omega)).trans res_f2
  replace res_f3 := (he2.frozen res_3 (by simp only; omega)).trans res_f3
  replace res_f4 := (he2.frozen res_4 (by simp only; omega)).trans res_f4
  replace res_f5 := (he2.frozen res_5 (by simp only; omega)).trans res_f5
  replace res_f6 := (he2.frozen res_6 (by simp only; omega)).trans res_f6
  replace res_0 := he2.cell res_0 (by simp only; omega)
  replace res_1 := he2.cell res_1 (by simp only; omega)
  replace res_2 := he2.cell res_2 (by simp only; omega)
  replace res_3 := he2.cell res_3 (by simp only; omega)
  replace res_4 := he2.cell res_4 (by simp only; omega)
  replace res_5 := he2.cell res_5 (by simp only; omega)
  replace res_6 := he2.cell res_6 (by simp only; omega)
  replace res_l := Nat.lt_of_lt_of_le res_l hz2
  clear hb
  go_wp2_with fail
  refine (l04Any_any w1.heap.size g w2 hc).mono ?_
  rintro e w3 hpost
  obtain ⟨k, key, ch, to, amt, fee, y, rfl, -, he⟩ := hpost
  have he3 : Eff (g) (g + 1) w2 w3 := he
  have hz3 : w2.heap.size ≤ w3.heap.size := he3.size
  have b3 : Below W.heap.size W w3 := b2.trans (he3.below b2.size (by omega))
  replace hr := (hr.below (he3.below (B := W.heap.size) (by omega) (by omega)) (Nat.le_refl _))
  replace res_f0 := (he3.frozen res_0 (by simp only; omega)).trans res_f0
  replace res_f1 := (he3.frozen res_1 (by simp only; omega)).trans res_f1
  replace res_f2 := (he3.frozen res_2 (by simp only; omega)).trans res_f2
  replace res_f3 := (he3.frozen res_3 (by simp only; omega)).trans res_f3
  replace res_f4 := (he3.frozen res_4 (by simp only; omega)).trans res_f4
  replace res_f5 := (he3.frozen res_5 (by simp only; omega)).trans res_f5
  replace res_f6 := (he3.frozen res_6 (by simp only; omega)).trans res_f6
  replace res_0 := he3.cell res_0 (by simp only; omega)
  replace res_1 := he3.cell res_1 (by simp only; omega)
  replace res_2 := he3.cell res_2 (by simp only; omega)
  replace res_3 := he3.cell res_3 (by simp only; omega)
  replace res_4 := he3.cell res_4 (by simp only; omega)
  replace res_5 := he3.cell res_5 (by simp only; omega)
  replace res_6 := he3.cell res_6 (by simp only; omega)
  replace res_l := Nat.lt_of_lt_of_le res_l hz3
  clear he
  go_upto_region 3 with fail
  have he4 : Eff 0 0 w3 (w3.alloc (.cells #[.int .i64 k, .int .i64 key, .int .i64 ch, .int .i64 to, .int .i64 amt, .int .i64 fee, .bool y] 32)) := Eff.alloc _ _
  have hs4 : (w3.alloc (.cells #[.int .i64 k, .int .i64 key, .int .i64 ch, .int .i64 to, .int .i64 amt, .int .i64 fee, .bool y] 32)).heap.size = w3.heap.size + 1 := (by simp)
  have e_0 : (w3.alloc (.cells #[.int .i64 k, .int .i64 key, .int .i64 ch, .int .i64 to, .int .i64 amt, .int .i64 fee, .bool y] 32)).cell? ⟨w3.heap.size, 0, none⟩ = some (.int .i64 k) := var_cell _ _ _ _ _ rfl
  have e_1 : (w3.alloc (.cells #[.int .i64 k, .int .i64 key, .int .i64 ch, .int .i64 to, .int .i64 amt, .int .i64 fee, .bool y] 32)).cell? ⟨w3.heap.size, 1, none⟩ = some (.int .i64 key) := var_cell _ _ _ _ _ rfl
  have e_2 : (w3.alloc (.cells #[.int .i64 k, .int .i64 key, .int .i64 ch, .int .i64 to, .int .i64 amt, .int .i64 fee, .bool y] 32)).cell? ⟨w3.heap.size, 2, none⟩ = some (.int .i64 ch) := var_cell _ _ _ _ _ rfl
  have e_3 : (w3.alloc (.cells #[.int .i64 k, .int .i64 key, .int .i64 ch, .int .i64 to, .int .i64 amt, .int .i64 fee, .bool y] 32)).cell? ⟨w3.heap.size, 3, none⟩ = some (.int .i64 to) := var_cell _ _ _ _ _ rfl
  have e_4 : (w3.alloc (.cells #[.int .i64 k, .int .i64 key, .int .i64 ch, .int .i64 to, .int .i64 amt, .int .i64 fee, .bool y] 32)).cell? ⟨w3.heap.size, 4, none⟩ = some (.int .i64 amt) := var_cell _ _ _ _ _ rfl
  have e_5 : (w3.alloc (.cells #[.int .i64 k, .int .i64 key, .int .i64 ch, .int .i64 to, .int .i64 amt, .int .i64 fee, .bool y] 32)).cell? ⟨w3.heap.size, 5, none⟩ = some (.int .i64 fee) := var_cell _ _ _ _ _ rfl
  have e_6 : (w3.alloc (.cells #[.int .i64 k, .int .i64 key, .int .i64 ch, .int .i64 to, .int .i64 amt, .int .i64 fee, .bool y] 32)).cell? ⟨w3.heap.size, 6, none⟩ = some (.bool y) := var_cell _ _ _ _ _ rfl
  generalize (w3.alloc (.cells #[.int .i64 k, .int .i64 key, .int .i64 ch, .int .i64 to, .int .i64 amt, .int .i64 fee, .bool y] 32)) = w4 at *
  have hz4 : w3.heap.size ≤ w4.heap.size := he4.size
  have b4 : Below W.heap.size W w4 := b3.trans (he4.below b3.size (by omega))
  replace hr := (hr.below (he4.below (B := W.heap.size) (by omega) (by omega)) (Nat.le_refl _))
  replace res_f0 := (he4.frozen res_0 (by simp only; omega)).trans res_f0
  replace res_f1 := (he4.frozen res_1 (by simp only; omega)).trans res_f1
  replace res_f2 := (he4.frozen res_2 (by simp only; omega)).trans res_f2
  replace res_f3 := (he4.frozen res_3 (by simp only; omega)).trans res_f3
  replace res_f4 := (he4.frozen res_4 (by simp only; omega)).trans res_f4
  replace res_f5 := (he4.frozen res_5 (by simp only; omega)).trans res_f5
  replace res_f6 := (he4.frozen res_6 (by simp only; omega)).trans res_f6
  replace res_0 := he4.cell res_0 (by simp only; omega)
  replace res_1 := he4.cell res_1 (by simp only; omega)
  replace res_2 := he4.cell res_2 (by simp only; omega)
  replace res_3 := he4.cell res_3 (by simp only; omega)
  replace res_4 := he4.cell res_4 (by simp only; omega)
  replace res_5 := he4.cell res_5 (by simp only; omega)
  replace res_6 := he4.cell res_6 (by simp only; omega)
  replace res_l := Nat.lt_of_lt_of_le res_l hz4
  have e_l : w3.heap.size < w4.heap.size := (by omega)
  go_wp2_with fail
  have r0 : (((((((w4.setCell ⟨W.heap.size, 0, none⟩ (.int .i64 k)).setCell ⟨W.heap.size, 1, none⟩ (.int .i64 key)).setCell ⟨W.heap.size, 2, none⟩ (.int .i64 ch)).setCell ⟨W.heap.size, 3, none⟩ (.int .i64 to)).setCell ⟨W.heap.size, 4, none⟩ (.int .i64 amt)).setCell ⟨W.heap.size, 5, none⟩ (.int .i64 fee)).setCell ⟨W.heap.size, 6, none⟩ (.bool y)).cell? ⟨W.heap.size, 0, none⟩ = some (.int .i64 k) := set_other (set_other (set_other (set_other (set_other (set_other (set_same (res_0) _) _ (.inr (by omega))) _ (.inr (by omega))) _ (.inr (by omega))) _ (.inr (by omega))) _ (.inr (by omega))) _ (.inr (by omega))
  have r1 : (((((((w4.setCell ⟨W.heap.size, 0, none⟩ (.int .i64 k)).setCell ⟨W.heap.size, 1, none⟩ (.int .i64 key)).setCell ⟨W.heap.size, 2, none⟩ (.int .i64 ch)).setCell ⟨W.heap.size, 3, none⟩ (.int .i64 to)).setCell ⟨W.heap.size, 4, none⟩ (.int .i64 amt)).setCell ⟨W.heap.size, 5, none⟩ (.int .i64 fee)).setCell ⟨W.heap.size, 6, none⟩ (.bool y)).cell? ⟨W.heap.size, 1, none⟩ = some (.int .i64 key) := set_other (set_other (set_other (set_other (set_other (set_same (set_other (res_1) _ (.inr (by omega))) _) _ (.inr (by omega))) _ (.inr (by omega))) _ (.inr (by omega))) _ (.inr (by omega))) _ (.inr (by omega))
  have r2 : (((((((w4.setCell ⟨W.heap.size, 0, none⟩ (.int .i64 k)).setCell ⟨W.heap.size, 1, none⟩ (.int .i64 key)).setCell ⟨W.heap.size, 2, none⟩ (.int .i64 ch)).setCell ⟨W.heap.size, 3, none⟩ (.int .i64 to)).setCell ⟨W.heap.size, 4, none⟩ (.int .i64 amt)).setCell ⟨W.heap.size, 5, none⟩ (.int .i64 fee)).setCell ⟨W.heap.size, 6, none⟩ (.bool y)).cell? ⟨W.heap.size, 2, none⟩ = some (.int .i64 ch) := set_other (set_other (set_other (set_other (set_same (set_other (set_other (res_2) _ (.inr (by omega))) _ (.inr (by omega))) _) _ (.inr (by omega))) _ (.inr (by omega))) _ (.inr (by omega))) _ (.inr (by omega))
  have r3 : (((((((w4.setCell ⟨W.heap.size, 0, none⟩ (.int .i64 k)).setCell ⟨W.heap.size, 1, none⟩ (.int .i64 key)).setCell ⟨W.heap.size, 2, none⟩ (.int .i64 ch)).setCell ⟨W.heap.size, 3, none⟩ (.int .i64 to)).setCell ⟨W.heap.size, 4, none⟩ (.int .i64 amt)).setCell ⟨W.heap.size, 5, none⟩ (.int .i64 fee)).setCell ⟨W.heap.size, 6, none⟩ (.bool y)).cell? ⟨W.heap.size, 3, none⟩ = some (.int .i64 to) := set_other (set_other (set_other (set_same (set_other (set_other (set_other (res_3) _ (.inr (by omega))) _ (.inr (by omega))) _ (.inr (by omega))) _) _ (.inr (by omega))) _ (.inr (by omega))) _ (.inr (by omega))
  have r4 : (((((((w4.setCell ⟨W.heap.size, 0, none⟩ (.int .i64 k)).setCell ⟨W.heap.size, 1, none⟩ (.int .i64 key)).setCell ⟨W.heap.size, 2, none⟩ (.int .i64 ch)).setCell ⟨W.heap.size, 3, none⟩ (.int .i64 to)).setCell ⟨W.heap.size, 4, none⟩ (.int .i64 amt)).setCell ⟨W.heap.size, 5, none⟩ (.int .i64 fee)).setCell ⟨W.heap.size, 6, none⟩ (.bool y)).cell? ⟨W.heap.size, 4, none⟩ = some (.int .i64 amt) := set_other (set_other (set_same (set_other (set_other (set_other (set_other (res_4) _ (.inr (by omega))) _ (.inr (by omega))) _ (.inr (by omega))) _ (.inr (by omega))) _) _ (.inr (by omega))) _ (.inr (by omega))
  have r5 : (((((((w4.setCell ⟨W.heap.size, 0, none⟩ (.int .i64 k)).setCell ⟨W.heap.size, 1, none⟩ (.int .i64 key)).setCell ⟨W.heap.size, 2, none⟩ (.int .i64 ch)).setCell ⟨W.heap.size, 3, none⟩ (.int .i64 to)).setCell ⟨W.heap.size, 4, none⟩ (.int .i64 amt)).setCell ⟨W.heap.size, 5, none⟩ (.int .i64 fee)).setCell ⟨W.heap.size, 6, none⟩ (.bool y)).cell? ⟨W.heap.size, 5, none⟩ = some (.int .i64 fee) := set_other (set_same (set_other (set_other (set_other (set_other (set_other (res_5) _ (.inr (by omega))) _ (.inr (by omega))) _ (.inr (by omega))) _ (.inr (by omega))) _ (.inr (by omega))) _) _ (.inr (by omega))
  have r6 : (((((((w4.setCell ⟨W.heap.size, 0, none⟩ (.int .i64 k)).setCell ⟨W.heap.size, 1, none⟩ (.int .i64 key)).setCell ⟨W.heap.size, 2, none⟩ (.int .i64 ch)).setCell ⟨W.heap.size, 3, none⟩ (.int .i64 to)).setCell ⟨W.heap.size, 4, none⟩ (.int .i64 amt)).setCell ⟨W.heap.size, 5, none⟩ (.int .i64 fee)).setCell ⟨W.heap.size, 6, none⟩ (.bool y)).cell? ⟨W.heap.size, 6, none⟩ = some (.bool y) := set_same (set_other (set_other (set_other (set_other (set_other (set_other (res_6) _ (.inr (by omega))) _ (.inr (by omega))) _ (.inr (by omega))) _ (.inr (by omega))) _ (.inr (by omega))) _ (.inr (by omega))) _
  refine bodyPost_ret (v := .agg #[.int .i64 k, .int .i64 key, .int .i64 ch, .int .i64 to, .int .i64 amt, .int .i64 fee, .bool y]) (by simp [results, Tryd.results19, go_sem, r0, r1, r2, r3, r4, r5, r6]) rfl ?_
  exact ⟨k, key, ch, to, amt, fee, y, rfl, b4.trans ((eff_set7 _ _ _ _ _ _ _ _ _).below (by omega) (by omega))⟩
end Go.Proofs.YtnjdmmdbminmoaaDoor
