/- BodyEvent: the program; both for every argument. -/
import Derived.Test.YtnjdmmdbminmoaaDoorBev
import Derived.Deep.QuietTactic
import Derived.BigQuiet
import Derived.RegionTactic
import Derived.ChangeAlike
namespace Go.Proofs.YtnjdmmdbminmoaaDoor
open Go.RowKit
set_option linter.unusedVariables false
set_option maxHeartbeats 4000000 in
set_option maxRecDepth 100000 in
theorem impl_BodyEvent_kind (c : Nat) (l : List UInt8) (v0 : Int) (t0 : Bool) (v1 : Int) (t1 : Bool) (v2 : Int) (t2 : Bool) (v3 : Int) (t3 : Bool) (v4 : Int) (t4 : Bool) (v5 : Int) (t5 : Bool) (v6 : Int) (t6 : Bool) (H0 : Hid (getNum l 1 1 = (v0, t0))) (H1 : Hid (getNum l 2 3 = (v1, t1))) (H2 : Hid (getNum l 5 1 = (v2, t2))) (H3 : Hid (getNum l 6 1 = (v3, t3))) (H4 : Hid (getNum l 7 7 = (v4, t4))) (H5 : Hid (getNum l 14 7 = (v5, t5))) (H6 : Hid (getNum l 21 1 = (v6, t6))) (b off : Nat) (_hnc : 22 ≤ c) (_hc : c ≤ maxLen) (_p0 : 0 ≤ v0) (_q0 : v0 ≤ 255) (_p2 : 0 ≤ v2) (_q2 : v2 ≤ 255) (_p3 : 0 ≤ v3) (_q3 : v3 ≤ 255) (_p6 : 0 ≤ v6) (_q6 : v6 ≤ 255) (W : World) (g1 : W.cell? ⟨b, off + 1, none⟩ = some (.int .u8 v0)) (g5 : W.cell? ⟨b, off + 5, none⟩ = some (.int .u8 v2)) (g6 : W.cell? ⟨b, off + 6, none⟩ = some (.int .u8 v3)) (g21 : W.cell? ⟨b, off + 21, none⟩ = some (.int .u8 v6)) (HO : Hid (evOk v0 v1 v2 v3 v4 v5 (v6 == 1) = false)) (HG : Hid (evGood l = false)) (hr : Rd W W.heap.size 1 (some ⟨b, off, none⟩) 22 (Lib.byteCells l)) : Calls Tryd.prog 23 #[.slice (some ⟨b, off, none⟩) 22 c] W (EvR l W) := by
  go_enter Tryd.func23, Tryd.ntmps23
  go_wp2_with fail
  have he1 : Eff 0 0 W (W.alloc (.cells #[.int .i64 0, .int .i64 0, .int .i64 0, .int .i64 0, .int .i64 0, .int .i64 0, .bool false] 32)) := Eff.alloc _ _
  have hs1 : (W.alloc (.cells #[.int .i64 0, .int .i64 0, .int .i64 0, .int .i64 0, .int .i64 0, .int .i64 0, .bool false] 32)).heap.size = W.heap.size + 1 := (by simp)
  have res_0 : (W.alloc (.cells #[.int .i64 0, .int .i64 0, .int .i64 0, .int .i64 0, .int .i64 0, .int .i64 0, .bool false] 32)).cell? ⟨W.heap.size, 0, none⟩ = some (.int .i64 0) := var_cell _ _ _ _ _ rfl
  have res_1 : (W.alloc (.cells #[.int .i64 0, .int .i64 0, .int .i64 0, .int .i64 0, .int .i64 0, .int .i64 0, .bool false] 32)).cell? ⟨W.heap.size, 1, none⟩ = some (.int .i64 0) := var_cell _ _ _ _ _ rfl
  have res_2 : (W.alloc (.cells #[.int .i64 0, .int .i64 0, .int .i64 0, .int .i64 0, .int .i64 0, .int .i64 0, .bool false] 32)).cell? ⟨W.heap.size, 2, none⟩ = some (.int .i64 0) := var_cell _ _ _ _ _ rfl
  have res_3 : (W.alloc (.cells #[.int .i64 0, .int .i64 0, .int .i64 0, .int .i64 0, .int .i64 0, .int .i64 0, .bool false] 32)).cell? ⟨W.heap.size, 3, none⟩ = some (.int .i64 0) := var_cell _ _ _ _ _ rfl
  have res_4 : (W.alloc (.cells #[.int .i64 0, .int .i64 0, .int .i64 0, .int .i64 0, .int .i64 0, .int .i64 0, .bool false] 32)).cell? ⟨W.heap.size, 4, none⟩ = some (.int .i64 0) := var_cell _ _ _ _ _ rfl
  have res_5 : (W.alloc (.cells #[.int .i64 0, .int .i64 0, .int .i64 0, .int .i64 0, .int .i64 0, .int .i64 0, .bool false] 32)).cell? ⟨W.heap.size, 5, none⟩ = some (.int .i64 0) := var_cell _ _ _ _ _ rfl
  have res_6 : (W.alloc (.cells #[.int .i64 0, .int .i64 0, .int .i64 0, .int .i64 0, .int .i64 0, .int .i64 0, .bool false] 32)).cell? ⟨W.heap.size, 6, none⟩ = some (.bool false) := var_cell _ _ _ _ _ rfl
  have res_f0 : (W.alloc (.cells #[.int .i64 0, .int .i64 0, .int .i64 0, .int .i64 0, .int .i64 0, .int .i64 0, .bool false] 32)).frozen? ⟨W.heap.size, 0, none⟩ = false := var_frozen _ _ _ _
  have res_f1 : (W.alloc (.cells #[.int .i64 0, .int .i64 0, .int .i64 0, .int .i64 0, .int .i64 0, .int .i64 0, .bool false] 32)).frozen? ⟨W.heap.size, 1, none⟩ = false := var_frozen _ _ _ _
  have res_f2 : (W.alloc (.cells #[.int .i64 0, .int .i64 0, .int .i64 0, .int .i64 0, .int .i64 0, .int .i64 0, .bool false] 32)).frozen? ⟨W.heap.size, 2, none⟩ = false := var_frozen _ _ _ _
  have res_f3 : (W.alloc (.cells #[.int .i64 0, .int .i64 0, .int .i64 0, .int .i64 0, .int .i64 0, .int .i64 0, .bool false] 32)).frozen? ⟨W.heap.size, 3, none⟩ = false := var_frozen _ _ _ _
  have res_f4 : (W.alloc (.cells #[.int .i64 0, .int .i64 0, .int .i64 0, .int .i64 0, .int .i64 0, .int .i64 0, .bool false] 32)).frozen? ⟨W.heap.size, 4, none⟩ = false := var_frozen _ _ _ _
  have res_f5 : (W.alloc (.cells #[.int .i64 0, .int .i64 0, .int .i64 0, .int .i64 0, .int .i64 0, .int .i64 0, .bool false] 32)).frozen? ⟨W.heap.size, 5, none⟩ = false := var_frozen _ _ _ _
  have res_f6 : (W.alloc (.cells #[.int .i64 0, .int .i64 0, .int .i64 0, .int .i64 0, .int .i64 0, .int .i64 0, .bool false] 32)).frozen? ⟨W.heap.size, 6, none⟩ = false := var_frozen _ _ _ _
  generalize (W.alloc (.cells #[.int .i64 0, .int .i64 0, .int .i64 0, .int .i64 0, .int .i64 0, .int .i64 0, .bool false] 32)) = w1 at *
  have hz1 : W.heap.size ≤ w1.heap.size := he1.size
  have b1 : Below W.heap.size W w1 := he1.below (Nat.le_refl _) (by omega)
  replace hr := (hr.below (he1.below (B := W.heap.size) (by omega) (by omega)) (Nat.le_refl _))
  replace g1 := he1.cell g1 (by simp only; omega)
  replace g5 := he1.cell g5 (by simp only; omega)
  replace g6 := he1.cell g6 (by simp only; omega)
  replace g21 := he1.cell g21 (by simp only; omega)
  have res_l : W.heap.size < w1.heap.size := (by omega)
  go_wp2_with fail
  have g1a := (Eff.alloc w1 (.cells #[.int .i64 0, .int .i64 0, .int .i64 0, .int .i64 0, .int .i64 0, .int .i64 0, .bool false] 32)).cell g1 (.inr (Nat.zero_le _))
  have g5a := (Eff.alloc w1 (.cells #[.int .i64 0, .int .i64 0, .int .i64 0, .int .i64 0, .int .i64 0, .int .i64 0, .bool false] 32)).cell g5 (.inr (Nat.zero_le _))
  have g6a := (Eff.alloc w1 (.cells #[.int .i64 0, .int .i64 0, .int .i64 0, .int .i64 0, .int .i64 0, .int .i64 0, .bool false] 32)).cell g6 (.inr (Nat.zero_le _))
  have g21a := (Eff.alloc w1 (.cells #[.int .i64 0, .int .i64 0, .int .i64 0, .int .i64 0, .int .i64 0, .int .i64 0, .bool false] 32)).cell g21 (.inr (Nat.zero_le _))
  go_region
  clear g1a g5a g6a g21a g1 g5 g6 g21
  go_wp2_with fail
  have he2 : Eff 0 0 w1 (w1.alloc (.cells #[.int .i64 v0, .int .i64 0, .int .i64 v2, .int .i64 v3, .int .i64 0, .int .i64 0, .bool (v6 == 1)] 32)).drew := (Eff.alloc _ _).drew
  have hs2 : (w1.alloc (.cells #[.int .i64 v0, .int .i64 0, .int .i64 v2, .int .i64 v3, .int .i64 0, .int .i64 0, .bool (v6 == 1)] 32)).drew.heap.size = w1.heap.size + 1 := (by simp)
  have s_0 : (w1.alloc (.cells #[.int .i64 v0, .int .i64 0, .int .i64 v2, .int .i64 v3, .int .i64 0, .int .i64 0, .bool (v6 == 1)] 32)).drew.cell? ⟨w1.heap.size, 0, none⟩ = some (.int .i64 v0) := var_cell _ _ _ _ _ rfl
  have s_1 : (w1.alloc (.cells #[.int .i64 v0, .int .i64 0, .int .i64 v2, .int .i64 v3, .int .i64 0, .int .i64 0, .bool (v6 == 1)] 32)).drew.cell? ⟨w1.heap.size, 1, none⟩ = some (.int .i64 0) := var_cell _ _ _ _ _ rfl
  have s_2 : (w1.alloc (.cells #[.int .i64 v0, .int .i64 0, .int .i64 v2, .int .i64 v3, .int .i64 0, .int .i64 0, .bool (v6 == 1)] 32)).drew.cell? ⟨w1.heap.size, 2, none⟩ = some (.int .i64 v2) := var_cell _ _ _ _ _ rfl
  have s_3 : (w1.alloc (.cells #[.int .i64 v0, .int .i64 0, .int .i64 v2, .int .i64 v3, .int .i64 0, .int .i64 0, .bool (v6 == 1)] 32)).drew.cell? ⟨w1.heap.size, 3, none⟩ = some (.int .i64 v3) := var_cell _ _ _ _ _ rfl
  have s_4 : (w1.alloc (.cells #[.int .i64 v0, .int .i64 0, .int .i64 v2, .int .i64 v3, .int .i64 0, .int .i64 0, .bool (v6 == 1)] 32)).drew.cell? ⟨w1.heap.size, 4, none⟩ = some (.int .i64 0) := var_cell _ _ _ _ _ rfl
  have s_5 : (w1.alloc (.cells #[.int .i64 v0, .int .i64 0, .int .i64 v2, .int .i64 v3, .int .i64 0, .int .i64 0, .bool (v6 == 1)] 32)).drew.cell? ⟨w1.heap.size, 5, none⟩ = some (.int .i64 0) := var_cell _ _ _ _ _ rfl
  have s_6 : (w1.alloc (.cells #[.int .i64 v0, .int .i64 0, .int .i64 v2, .int .i64 v3, .int .i64 0, .int .i64 0, .bool (v6 == 1)] 32)).drew.cell? ⟨w1.heap.size, 6, none⟩ = some (.bool (v6 == 1)) := var_cell _ _ _ _ _ rfl
  have s_f0 : (w1.alloc (.cells #[.int .i64 v0, .int .i64 0, .int .i64 v2, .int .i64 v3, .int .i64 0, .int .i64 0, .bool (v6 == 1)] 32)).drew.frozen? ⟨w1.heap.size, 0, none⟩ = false := var_frozen _ _ _ _
  have s_f1 : (w1.alloc (.cells #[.int .i64 v0, .int .i64 0, .int .i64 v2, .int .i64 v3, .int .i64 0, .int .i64 0, .bool (v6 == 1)] 32)).drew.frozen? ⟨w1.heap.size, 1, none⟩ = false := var_frozen _ _ _ _
  have s_f2 : (w1.alloc (.cells #[.int .i64 v0, .int .i64 0, .int .i64 v2, .int .i64 v3, .int .i64 0, .int .i64 0, .bool (v6 == 1)] 32)).drew.frozen? ⟨w1.heap.size, 2, none⟩ = false := var_frozen _ _ _ _
  have s_f3 : (w1.alloc (.cells #[.int .i64 v0, .int .i64 0, .int .i64 v2, .int .i64 v3, .int .i64 0, .int .i64 0, .bool (v6 == 1)] 32)).drew.frozen? ⟨w1.heap.size, 3, none⟩ = false := var_frozen _ _ _ _
  have s_f4 : (w1.alloc (.cells #[.int .i64 v0, .int .i64 0, .int .i64 v2, .int .i64 v3, .int .i64 0, .int .i64 0, .bool (v6 == 1)] 32)).drew.frozen? ⟨w1.heap.size, 4, none⟩ = false := var_frozen _ _ _ _
  have s_f5 : (w1.alloc (.cells #[.int .i64 v0, .int .i64 0, .int .i64 v2, .int .i64 v3, .int .i64 0, .int .i64 0, .bool (v6 == 1)] 32)).drew.frozen? ⟨w1.heap.size, 5, none⟩ = false := var_frozen _ _ _ _
  have s_f6 : (w1.alloc (.cells #[.int .i64 v0, .int .i64 0, .int .i64 v2, .int .i64 v3, .int .i64 0, .int .i64 0, .bool (v6 == 1)] 32)).drew.frozen? ⟨w1.heap.size, 6, none⟩ = false := var_frozen _ _ _ _
  generalize (w1.alloc (.cells #[.int .i64 v0, .int .i64 0, .int .i64 v2, .int .i64 v3, .int .i64 0, .int .i64 0, .bool (v6 == 1)] 32)).drew = w2 at *
  have hz2 : w1.heap.size ≤ w2.heap.size := he2.size
  have b2 : Below W.heap.size W w2 := b1.trans (he2.below b1.size (by omega))
  replace hr := (hr.below (he2.below (B := W.heap.size) (by omega) (by omega)) (Nat.le_refl _))
  replace res_f0 := (he2.frozen res_0 (by simp only; omega)).trans res_f0
  replace res_f1 := (he2.frozen res_1 (by simp only; omega)).trans res_f1
  replace res_f2 := (he2.frozen res_2 (by simp only; omega)).trans res_f2
  replace res_f3 := (he2.frozen res_3 (by simp only; omega)).trans res_f3
  replace res_f4 := (he2.frozen res_4 (by simp only; omega)).trans res_f4
  replace res_f5 := (he2.frozen res_5 (by simp only; omega)).trans res_f5
  replace res_f6 := (he2.frozen res_6 (by simp only; omega)).trans res_f6
  replace res_0 := he2.cell res_0 (by simp only; omega)
  replace res_1 := he2.cell res_1 (by simp only; omega)
  replace res_2 := he2.cell res_2 (by simp only; omega)
  replace res_3 := he2.cell res_3 (by simp only; omega)
  replace res_4 := he2.cell res_4 (by simp only; omega)
  replace res_5 := he2.cell res_5 (by simp only; omega)
  replace res_6 := he2.cell res_6 (by simp only; omega)
  replace res_l := Nat.lt_of_lt_of_le res_l hz2
  rw [hs1] at s_0 s_f0
  rw [hs1] at s_1 s_f1
  rw [hs1] at s_2 s_f2
  rw [hs1] at s_3 s_f3
  rw [hs1] at s_4 s_f4
  rw [hs1] at s_5 s_f5
  rw [hs1] at s_6 s_f6
  have s_l : W.heap.size + 1 < w2.heap.size := (by omega)
  refine (impl_GetNum _ 22 c l 2 3 _hnc (by omega) w2 (hr.more (by omega))).mono ?_
  rintro e w3 ⟨rfl, hb⟩
  have he3 : Eff 0 0 w2 w3 := Eff.of hb
  have hz3 : w2.heap.size ≤ w3.heap.size := he3.size
  have b3 : Below W.heap.size W w3 := b2.trans (he3.below b2.size (by omega))
  replace hr := (hr.below (he3.below (B := W.heap.size) (by omega) (by omega)) (Nat.le_refl _))
  replace res_f0 := (he3.frozen res_0 (by simp only; omega)).trans res_f0
  replace res_f1 := (he3.frozen res_1 (by simp only; omega)).trans res_f1
  replace res_f2 := (he3.frozen res_2 (by simp only; omega)).trans res_f2
  replace res_f3 := (he3.frozen res_3 (by simp only; omega)).trans res_f3
  replace res_f4 := (he3.frozen res_4 (by simp only; omega)).trans res_f4
  replace res_f5 := (he3.frozen res_5 (by simp only; omega)).trans res_f5
  replace res_f6 := (he3.frozen res_6 (by simp only; omega)).trans res_f6
  replace s_f0 := (he3.frozen s_0 (by simp only; omega)).trans s_f0
  replace s_f1 := (he3.frozen s_1 (by simp only; omega)).trans s_f1
  replace s_f2 := (he3.frozen s_2 (by simp only; omega)).trans s_f2
  replace s_f3 := (he3.frozen s_3 (by simp only; omega)).trans s_f3
  replace s_f4 := (he3.frozen s_4 (by simp only; omega)).trans s_f4
  replace s_f5 := (he3.frozen s_5 (by simp only; omega)).trans s_f5
  replace s_f6 := (he3.frozen s_6 (by simp only; omega)).trans s_f6
  replace res_0 := he3.cell res_0 (by simp only; omega)
  replace res_1 := he3.cell res_1 (by simp only; omega)
  replace res_2 := he3.cell res_2 (by simp only; omega)
  replace res_3 := he3.cell res_3 (by simp only; omega)
  replace res_4 := he3.cell res_4 (by simp only; omega)
  replace res_5 := he3.cell res_5 (by simp only; omega)
  replace res_6 := he3.cell res_6 (by simp only; omega)
  replace s_0 := he3.cell s_0 (by simp only; omega)
  replace s_1 := he3.cell s_1 (by simp only; omega)
  replace s_2 := he3.cell s_2 (by simp only; omega)
  replace s_3 := he3.cell s_3 (by simp only; omega)
  replace s_4 := he3.cell s_4 (by simp only; omega)
  replace s_5 := he3.cell s_5 (by simp only; omega)
  replace s_6 := he3.cell s_6 (by simp only; omega)
  replace res_l := Nat.lt_of_lt_of_le res_l hz3
  replace s_l := Nat.lt_of_lt_of_le s_l hz3
  clear hb
  rw [H1.out]
  go_wp2_with fail
  have he4 : Eff (W.heap.size + 1) (W.heap.size + 1 + 1) w3 (w3.setCell ⟨W.heap.size + 1, 1, none⟩ (.int .i64 v1)) := eff_set _ _ _ _
  replace res_f0 := (he4.frozen res_0 (by simp only; omega)).trans res_f0
  replace res_f1 := (he4.frozen res_1 (by simp only; omega)).trans res_f1
  replace res_f2 := (he4.frozen res_2 (by simp only; omega)).trans res_f2
  replace res_f3 := (he4.frozen res_3 (by simp only; omega)).trans res_f3
  replace res_f4 := (he4.frozen res_4 (by simp only; omega)).trans res_f4
  replace res_f5 := (he4.frozen res_5 (by simp only; omega)).trans res_f5
  replace res_f6 := (he4.frozen res_6 (by simp only; omega)).trans res_f6
  replace s_f0 := set_frozen (p := ⟨W.heap.size + 1, 1, none⟩) s_f0 (.int .i64 v1)
  replace s_f1 := set_frozen (p := ⟨W.heap.size + 1, 1, none⟩) s_f1 (.int .i64 v1)
  replace s_f2 := set_frozen (p := ⟨W.heap.size + 1, 1, none⟩) s_f2 (.int .i64 v1)
  replace s_f3 := set_frozen (p := ⟨W.heap.size + 1, 1, none⟩) s_f3 (.int .i64 v1)
  replace s_f4 := set_frozen (p := ⟨W.heap.size + 1, 1, none⟩) s_f4 (.int .i64 v1)
  replace s_f5 := set_frozen (p := ⟨W.heap.size + 1, 1, none⟩) s_f5 (.int .i64 v1)
  replace s_f6 := set_frozen (p := ⟨W.heap.size + 1, 1, none⟩) s_f6 (.int .i64 v1)
  replace res_0 := he4.cell res_0 (by simp only; omega)
  replace res_1 := he4.cell res_1 (by simp only; omega)
  replace res_2 := he4.cell res_2 (by simp only; omega)
  replace res_3 := he4.cell res_3 (by simp only; omega)
  replace res_4 := he4.cell res_4 (by simp only; omega)
  replace res_5 := he4.cell res_5 (by simp only; omega)
  replace res_6 := he4.cell res_6 (by simp only; omega)
  replace s_0 := set_other (b' := W.heap.size + 1) (o' := 1) s_0 (.int .i64 v1) (.inr (by omega))
  replace s_1 := set_same s_1 (.int .i64 v1)
  replace s_2 := set_other (b' := W.heap.size + 1) (o' := 1) s_2 (.int .i64 v1) (.inr (by omega))
  replace s_3 := set_other (b' := W.heap.size + 1) (o' := 1) s_3 (.int .i64 v1) (.inr (by omega))
  replace s_4 := set_other (b' := W.heap.size + 1) (o' := 1) s_4 (.int .i64 v1) (.inr (by omega))
  replace s_5 := set_other (b' := W.heap.size + 1) (o' := 1) s_5 (.int .i64 v1) (.inr (by omega))
  replace s_6 := set_other (b' := W.heap.size + 1) (o' := 1) s_6 (.int .i64 v1) (.inr (by omega))
  have hz4 : w3.heap.size ≤ (w3.setCell ⟨W.heap.size + 1, 1, none⟩ (.int .i64 v1)).heap.size := he4.size
  generalize (w3.setCell ⟨W.heap.size + 1, 1, none⟩ (.int .i64 v1)) = w4 at *
  have b4 : Below W.heap.size W w4 := b3.trans (he4.below b3.size (by omega))
  replace hr := (hr.below (he4.below (B := W.heap.size) (by omega) (by omega)) (Nat.le_refl _))
  replace res_l := Nat.lt_of_lt_of_le res_l hz4
  replace s_l := Nat.lt_of_lt_of_le s_l hz4
  refine (impl_GetNum _ 22 c l 7 7 _hnc (by omega) w4 (hr.more (by omega))).mono ?_
  rintro e w5 ⟨rfl, hb⟩
  have he5 : Eff 0 0 w4 w5 := Eff.of hb
  have hz5 : w4.heap.size ≤ w5.heap.size := he5.size
  have b5 : Below W.heap.size W w5 := b4.trans (he5.below b4.size (by omega))
  replace hr := (hr.below (he5.below (B := W.heap.size) (by omega) (by omega)) (Nat.le_refl _))
  replace res_f0 := (he5.frozen res_0 (by simp only; omega)).trans res_f0
  replace res_f1 := (he5.frozen res_1 (by simp only; omega)).trans res_f1
  replace res_f2 := (he5.frozen res_2 (by simp only; omega)).trans res_f2
  replace res_f3 := (he5.frozen res_3 (by simp only; omega)).trans res_f3
  replace res_f4 := (he5.frozen res_4 (by simp only; omega)).trans res_f4
  replace res_f5 := (he5.frozen res_5 (by simp only; omega)).trans res_f5
  replace res_f6 := (he5.frozen res_6 (by simp only; omega)).trans res_f6
  replace s_f0 := (he5.frozen s_0 (by simp only; omega)).trans s_f0
  replace s_f1 := (he5.frozen s_1 (by simp only; omega)).trans s_f1
  replace s_f2 := (he5.frozen s_2 (by simp only; omega)).trans s_f2
  replace s_f3 := (he5.frozen s_3 (by simp only; omega)).trans s_f3
  replace s_f4 := (he5.frozen s_4 (by simp only; omega)).trans s_f4
  replace s_f5 := (he5.frozen s_5 (by simp only; omega)).trans s_f5
  replace s_f6 := (he5.frozen s_6 (by simp only; omega)).trans s_f6
  replace res_0 := he5.cell res_0 (by simp only; omega)
  replace res_1 := he5.cell res_1 (by simp only; omega)
  replace res_2 := he5.cell res_2 (by simp only; omega)
  replace res_3 := he5.cell res_3 (by simp only; omega)
  replace res_4 := he5.cell res_4 (by simp only; omega)
  replace res_5 := he5.cell res_5 (by simp only; omega)
  replace res_6 := he5.cell res_6 (by simp only; omega)
  replace s_0 := he5.cell s_0 (by simp only; omega)
  replace s_1 := he5.cell s_1 (by simp only; omega)
  replace s_2 := he5.cell s_2 (by simp only; omega)
  replace s_3 := he5.cell s_3 (by simp only; omega)
  replace s_4 := he5.cell s_4 (by simp only; omega)
  replace s_5 := he5.cell s_5 (by simp only; omega)
  replace s_6 := he5.cell s_6 (by simp only; omega)
  replace res_l := Nat.lt_of_lt_of_le res_l hz5
  replace s_l := Nat.lt_of_lt_of_le s_l hz5
  clear hb
  rw [H4.out]
  go_wp2_with fail
  have he6 : Eff (W.heap.size + 1) (W.heap.size + 1 + 1) w5 (w5.setCell ⟨W.heap.size + 1, 4, none⟩ (.int .i64 v4)) := eff_set _ _ _ _
  replace res_f0 := (he6.frozen res_0 (by simp only; omega)).trans res_f0
  replace res_f1 := (he6.frozen res_1 (by simp only; omega)).trans res_f1
  replace res_f2 := (he6.frozen res_2 (by simp only; omega)).trans res_f2
  replace res_f3 := (he6.frozen res_3 (by simp only; omega)).trans res_f3
  replace res_f4 := (he6.frozen res_4 (by simp only; omega)).trans res_f4
  replace res_f5 := (he6.frozen res_5 (by simp only; omega)).trans res_f5
  replace res_f6 := (he6.frozen res_6 (by simp only; omega)).trans res_f6
  replace s_f0 := set_frozen (p := ⟨W.heap.size + 1, 4, none⟩) s_f0 (.int .i64 v4)
  replace s_f1 := set_frozen (p := ⟨W.heap.size + 1, 4, none⟩) s_f1 (.int .i64 v4)
  replace s_f2 := set_frozen (p := ⟨W.heap.size + 1, 4, none⟩) s_f2 (.int .i64 v4)
  replace s_f3 := set_frozen (p := ⟨W.heap.size + 1, 4, none⟩) s_f3 (.int .i64 v4)
  replace s_f4 := set_frozen (p := ⟨W.heap.size + 1, 4, none⟩) s_f4 (.int .i64 v4)
  replace s_f5 := set_frozen (p := ⟨W.heap.size + 1, 4, none⟩) s_f5 (.int .i64 v4)
  replace s_f6 := set_frozen (p := ⟨W.heap.size + 1, 4, none⟩) s_f6 (.int .i64 v4)
  replace res_0 := he6.cell res_0 (by simp only; omega)
  replace res_1 := he6.cell res_1 (by simp only; omega)
  replace res_2 := he6.cell res_2 (by simp only; omega)
  replace res_3 := he6.cell res_3 (by simp only; omega)
  replace res_4 := he6.cell res_4 (by simp only; omega)
  replace res_5 := he6.cell res_5 (by simp only; omega)
  replace res_6 := he6.cell res_6 (by simp only; omega)
  replace s_0 := set_other (b' := W.heap.size + 1) (o' := 4) s_0 (.int .i64 v4) (.inr (by omega))
  replace s_1 := set_other (b' := W.heap.size + 1) (o' := 4) s_1 (.int .i64 v4) (.inr (by omega))
  replace s_2 := set_other (b' := W.heap.size + 1) (o' := 4) s_2 (.int .i64 v4) (.inr (by omega))
  replace s_3 := set_other (b' := W.heap.size + 1) (o' := 4) s_3 (.int .i64 v4) (.inr (by omega))
  replace s_4 := set_same s_4 (.int .i64 v4)
  replace s_5 := set_other (b' := W.heap.size + 1) (o' := 4) s_5 (.int .i64 v4) (.inr (by omega))
  replace s_6 := set_other (b' := W.heap.size + 1) (o' := 4) s_6 (.int .i64 v4) (.inr (by omega))
  have hz6 : w5.heap.size ≤ (w5.setCell ⟨W.heap.size + 1, 4, none⟩ (.int .i64 v4)).heap.size := he6.size
  generalize (w5.setCell ⟨W.heap.size + 1, 4, none⟩ (.int .i64 v4)) = w6 at *
  have b6 : Below W.heap.size W w6 := b5.trans (he6.below b5.size (by omega))
  replace hr := (hr.below (he6.below (B := W.heap.size) (by omega) (by omega)) (Nat.le_refl _))
  replace res_l := Nat.lt_of_lt_of_le res_l hz6
  replace s_l := Nat.lt_of_lt_of_le s_l hz6
  refine (impl_GetNum _ 22 c l 14 7 _hnc (by omega) w6 (hr.more (by omega))).mono ?_
  rintro e w7 ⟨rfl, hb⟩
  have he7 : Eff 0 0 w6 w7 := Eff.of hb
  have hz7 : w6.heap.size ≤ w7.heap.size := he7.size
  have b7 : Below W.heap.size W w7 := b6.trans (he7.below b6.size (by omega))
  replace hr := (hr.below (he7.below (B := W.heap.size) (by omega) (by omega)) (Nat.le_refl _))
  replace res_f0 := (he7.frozen res_0 (by simp only; omega)).trans res_f0
  replace res_f1 := (he7.frozen res_1 (by simp only; omega)).trans res_f1
  replace res_f2 := (he7.frozen res_2 (by simp only; omega)).trans res_f2
  replace res_f3 := (he7.frozen res_3 (by simp only; omega)).trans res_f3
  replace res_f4 := (he7.frozen res_4 (by simp only; omega)).trans res_f4
  replace res_f5 := (he7.frozen res_5 (by simp only; omega)).trans res_f5
  replace res_f6 := (he7.frozen res_6 (by simp only; omega)).trans res_f6
  replace s_f0 := (he7.frozen s_0 (by simp only; omega)).trans s_f0
  replace s_f1 := (he7.frozen s_1 (by simp only; omega)).trans s_f1
  replace s_f2 := (he7.frozen s_2 (by simp only; omega)).trans s_f2
  replace s_f3 := (he7.frozen s_3 (by simp only; omega)).trans s_f3
  replace s_f4 := (he7.frozen s_4 (by simp only; omega)).trans s_f4
  replace s_f5 := (he7.frozen s_5 (by simp only; omega)).trans s_f5
  replace s_f6 := (he7.frozen s_6 (by simp only; omega)).trans s_f6
  replace res_0 := he7.cell res_0 (by simp only; omega)
  replace res_1 := he7.cell res_1 (by simp only; omega)
  replace res_2 := he7.cell res_2 (by simp only; omega)
  replace res_3 := he7.cell res_3 (by simp only; omega)
  replace res_4 := he7.cell res_4 (by simp only; omega)
  replace res_5 := he7.cell res_5 (by simp only; omega)
  replace res_6 := he7.cell res_6 (by simp only; omega)
  replace s_0 := he7.cell s_0 (by simp only; omega)
  replace s_1 := he7.cell s_1 (by simp only; omega)
  replace s_2 := he7.cell s_2 (by simp only; omega)
  replace s_3 := he7.cell s_3 (by simp only; omega)
  replace s_4 := he7.cell s_4 (by simp only; omega)
  replace s_5 := he7.cell s_5 (by simp only; omega)
  replace s_6 := he7.cell s_6 (by simp only; omega)
  replace res_l := Nat.lt_of_lt_of_le res_l hz7
  replace s_l := Nat.lt_of_lt_of_le s_l hz7
  clear hb
  rw [H5.out]
  go_wp2_with fail
  have he8 : Eff (W.heap.size + 1) (W.heap.size + 1 + 1) w7 (w7.setCell ⟨W.heap.size + 1, 5, none⟩ (.int .i64 v5)) := eff_set _ _ _ _
  replace res_f0 := (he8.frozen res_0 (by simp only; omega)).trans res_f0
  replace res_f1 := (he8.frozen res_1 (by simp only; omega)).trans res_f1
  replace res_f2 := (he8.frozen res_2 (by simp only; omega)).trans res_f2
  replace res_f3 := (he8.frozen res_3 (by simp only; omega)).trans res_f3
  replace res_f4 := (he8.frozen res_4 (by simp only; omega)).trans res_f4
  replace res_f5 := (he8.frozen res_5 (by simp only; omega)).trans res_f5
  replace res_f6 := (he8.frozen res_6 (by simp only; omega)).trans res_f6
  replace s_f0 := set_frozen (p := ⟨W.heap.size + 1, 5, none⟩) s_f0 (.int .i64 v5)
  replace s_f1 := set_frozen (p := ⟨W.heap.size + 1, 5, none⟩) s_f1 (.int .i64 v5)
  replace s_f2 := set_frozen (p := ⟨W.heap.size + 1, 5, none⟩) s_f2 (.int .i64 v5)
  replace s_f3 := set_frozen (p := ⟨W.heap.size + 1, 5, none⟩) s_f3 (.int .i64 v5)
  replace s_f4 := set_frozen (p := ⟨W.heap.size + 1, 5, none⟩) s_f4 (.int .i64 v5)
  replace s_f5 := set_frozen (p := ⟨W.heap.size + 1, 5, none⟩) s_f5 (.int .i64 v5)
  replace s_f6 := set_frozen (p := ⟨W.heap.size + 1, 5, none⟩) s_f6 (.int .i64 v5)
  replace res_0 := he8.cell res_0 (by simp only; omega)
  replace res_1 := he8.cell res_1 (by simp only; omega)
  replace res_2 := he8.cell res_2 (by simp only; omega)
  replace res_3 := he8.cell res_3 (by simp only; omega)
  replace res_4 := he8.cell res_4 (by simp only; omega)
  replace res_5 := he8.cell res_5 (by simp only; omega)
  replace res_6 := he8.cell res_6 (by simp only; omega)
  replace s_0 := set_other (b' := W.heap.size + 1) (o' := 5) s_0 (.int .i64 v5) (.inr (by omega))
  replace s_1 := set_other (b' := W.heap.size + 1) (o' := 5) s_1 (.int .i64 v5) (.inr (by omega))
  replace s_2 := set_other (b' := W.heap.size + 1) (o' := 5) s_2 (.int .i64 v5) (.inr (by omega))
  replace s_3 := set_other (b' := W.heap.size + 1) (o' := 5) s_3 (.int .i64 v5) (.inr (by omega))
  replace s_4 := set_other (b' := W.heap.size + 1) (o' := 5) s_4 (.int .i64 v5) (.inr (by omega))
  replace s_5 := set_same s_5 (.int .i64 v5)
  replace s_6 := set_other (b' := W.heap.size + 1) (o' := 5) s_6 (.int .i64 v5) (.inr (by omega))
  have hz8 : w7.heap.size ≤ (w7.setCell ⟨W.heap.size + 1, 5, none⟩ (.int .i64 v5)).heap.size := he8.size
  generalize (w7.setCell ⟨W.heap.size + 1, 5, none⟩ (.int .i64 v5)) = w8 at *
  have b8 : Below W.heap.size W w8 := b7.trans (he8.below b7.size (by omega))
  replace hr := (hr.below (he8.below (B := W.heap.size) (by omega) (by omega)) (Nat.le_refl _))
  replace res_l := Nat.lt_of_lt_of_le res_l hz8
  replace s_l := Nat.lt_of_lt_of_le s_l hz8
  refine (impl_EventBody v0 v1 v2 v3 v4 v5 (v6 == 1) w8).mono ?_
  rintro e w9 hpost
  rw [HO.out] at hpost
  obtain ⟨rfl, hb⟩ := hpost.not
  clear hpost
  have he9 : Eff 0 0 w8 w9 := Eff.of hb
  have hz9 : w8.heap.size ≤ w9.heap.size := he9.size
  have b9 : Below W.heap.size W w9 := b8.trans (he9.below b8.size (by omega))
  replace hr := (hr.below (he9.below (B := W.heap.size) (by omega) (by omega)) (Nat.le_refl _))
  replace res_f0 := (he9.frozen res_0 (by simp only; omega)).trans res_f0
  replace res_f1 := (he9.frozen res_1 (by simp only; omega)).trans res_f1
  replace res_f2 := (he9.frozen res_2 (by simp only; omega)).trans res_f2
  replace res_f3 := (he9.frozen res_3 (by simp only; omega)).trans res_f3
  replace res_f4 := (he9.frozen res_4 (by simp only; omega)).trans res_f4
  replace res_f5 := (he9.frozen res_5 (by simp only; omega)).trans res_f5
  replace res_f6 := (he9.frozen res_6 (by simp only; omega)).trans res_f6
  replace s_f0 := (he9.frozen s_0 (by simp only; omega)).trans s_f0
  replace s_f1 := (he9.frozen s_1 (by simp only; omega)).trans s_f1
  replace s_f2 := (he9.frozen s_2 (by simp only; omega)).trans s_f2
  replace s_f3 := (he9.frozen s_3 (by simp only; omega)).trans s_f3
  replace s_f4 := (he9.frozen s_4 (by simp only; omega)).trans s_f4
  replace s_f5 := (he9.frozen s_5 (by simp only; omega)).trans s_f5
  replace s_f6 := (he9.frozen s_6 (by simp only; omega)).trans s_f6
  replace res_0 := he9.cell res_0 (by simp only; omega)
  replace res_1 := he9.cell res_1 (by simp only; omega)
  replace res_2 := he9.cell res_2 (by simp only; omega)
  replace res_3 := he9.cell res_3 (by simp only; omega)
  replace res_4 := he9.cell res_4 (by simp only; omega)
  replace res_5 := he9.cell res_5 (by simp only; omega)
  replace res_6 := he9.cell res_6 (by simp only; omega)
  replace s_0 := he9.cell s_0 (by simp only; omega)
  replace s_1 := he9.cell s_1 (by simp only; omega)
  replace s_2 := he9.cell s_2 (by simp only; omega)
  replace s_3 := he9.cell s_3 (by simp only; omega)
  replace s_4 := he9.cell s_4 (by simp only; omega)
  replace s_5 := he9.cell s_5 (by simp only; omega)
  replace s_6 := he9.cell s_6 (by simp only; omega)
  replace res_l := Nat.lt_of_lt_of_le res_l hz9
  replace s_l := Nat.lt_of_lt_of_le s_l hz9
  clear hb
  go_wp2
  refine bodyPost_ret (v := .tuple #[.agg #[.int .i64 0, .int .i64 0, .int .i64 0, .int .i64 0, .int .i64 0, .int .i64 0, .bool false], .bool false]) (by simp [results, Tryd.results23, go_sem, *]) rfl ?_
  exact EvR.no HG.out (below_set7 b9)
set_option maxHeartbeats 4000000 in
set_option maxRecDepth 100000 in
theorem impl_BodyEvent_other (c : Nat) (l : List UInt8) (v0 : Int) (t0 : Bool) (v1 : Int) (t1 : Bool) (v2 : Int) (t2 : Bool) (v3 : Int) (t3 : Bool) (v4 : Int) (t4 : Bool) (v5 : Int) (t5 : Bool) (v6 : Int) (t6 : Bool) (H0 : Hid (getNum l 1 1 = (v0, t0))) (H1 : Hid (getNum l 2 3 = (v1, t1))) (H2 : Hid (getNum l 5 1 = (v2, t2))) (H3 : Hid (getNum l 6 1 = (v3, t3))) (H4 : Hid (getNum l 7 7 = (v4, t4))) (H5 : Hid (getNum l 14 7 = (v5, t5))) (H6 : Hid (getNum l 21 1 = (v6, t6))) (b off : Nat) (_hnc : 22 ≤ c) (_hc : c ≤ maxLen) (_p0 : 0 ≤ v0) (_q0 : v0 ≤ 255) (_p2 : 0 ≤ v2) (_q2 : v2 ≤ 255) (_p3 : 0 ≤ v3) (_q3 : v3 ≤ 255) (_p6 : 0 ≤ v6) (_q6 : v6 ≤ 255) (W : World) (g1 : W.cell? ⟨b, off + 1, none⟩ = some (.int .u8 v0)) (g5 : W.cell? ⟨b, off + 5, none⟩ = some (.int .u8 v2)) (g6 : W.cell? ⟨b, off + 6, none⟩ = some (.int .u8 v3)) (g21 : W.cell? ⟨b, off + 21, none⟩ = some (.int .u8 v6)) (HO : Hid (evOk v0 v1 v2 v3 v4 v5 (v6 == 1) = true)) (HQ : Hid (evBytes v0.toNat v1.toNat v2.toNat v3.toNat v4.toNat v5.toNat (v6 == 1) ≠ l)) (HG : Hid (evGood l = false)) (hr : Rd W W.heap.size 1 (some ⟨b, off, none⟩) 22 (Lib.byteCells l)) : Calls Tryd.prog 23 #[.slice (some ⟨b, off, none⟩) 22 c] W (EvR l W) := by
  go_enter Tryd.func23, Tryd.ntmps23
  go_wp2_with fail
  have he1 : Eff 0 0 W (W.alloc (.cells #[.int .i64 0, .int .i64 0, .int .i64 0, .int .i64 0, .int .i64 0, .int .i64 0, .bool false] 32)) := Eff.alloc _ _
  have hs1 : (W.alloc (.cells #[.int .i64 0, .int .i64 0, .int .i64 0, .int .i64 0, .int .i64 0, .int .i64 0, .bool false] 32)).heap.size = W.heap.size + 1 := (by simp)
  have res_0 : (W.alloc (.cells #[.int .i64 0, .int .i64 0, .int .i64 0, .int .i64 0, .int .i64 0, .int .i64 0, .bool false] 32)).cell? ⟨W.heap.size, 0, none⟩ = some (.int .i64 0) := var_cell _ _ _ _ _ rfl
  have res_1 : (W.alloc (.cells #[.int .i64 0, .int .i64 0, .int .i64 0, .int .i64 0, .int .i64 0, .int .i64 0, .bool false] 32)).cell? ⟨W.heap.size, 1, none⟩ = some (.int .i64 0) := var_cell _ _ _ _ _ rfl
  have res_2 : (W.alloc (.cells #[.int .i64 0, .int .i64 0, .int .i64 0, .int .i64 0, .int .i64 0, .int .i64 0, .bool false] 32)).cell? ⟨W.heap.size, 2, none⟩ = some (.int .i64 0) := var_cell _ _ _ _ _ rfl
  have res_3 : (W.alloc (.cells #[.int .i64 0, .int .i64 0, .int .i64 0, .int .i64 0, .int .i64 0, .int .i64 0, .bool false] 32)).cell? ⟨W.heap.size, 3, none⟩ = some (.int .i64 0) := var_cell _ _ _ _ _ rfl
  have res_4 : (W.alloc (.cells #[.int .i64 0, .int .i64 0, .int .i64 0, .int .i64 0, .int .i64 0, .int .i64 0, .bool false] 32)).cell? ⟨W.heap.size, 4, none⟩ = some (.int .i64 0) := var_cell _ _ _ _ _ rfl
  have res_5 : (W.alloc (.cells #[.int .i64 0, .int .i64 0, .int .i64 0, .int .i64 0, .int .i64 0, .int .i64 0, .bool false] 32)).cell? ⟨W.heap.size, 5, none⟩ = some (.int .i64 0) := var_cell _ _ _ _ _ rfl
  have res_6 : (W.alloc (.cells #[.int .i64 0, .int .i64 0, .int .i64 0, .int .i64 0, .int .i64 0, .int .i64 0, .bool false] 32)).cell? ⟨W.heap.size, 6, none⟩ = some (.bool false) := var_cell _ _ _ _ _ rfl
  have res_f0 : (W.alloc (.cells #[.int .i64 0, .int .i64 0, .int .i64 0, .int .i64 0, .int .i64 0, .int .i64 0, .bool false] 32)).frozen? ⟨W.heap.size, 0, none⟩ = false := var_frozen _ _ _ _
  have res_f1 : (W.alloc (.cells #[.int .i64 0, .int .i64 0, .int .i64 0, .int .i64 0, .int .i64 0, .int .i64 0, .bool false] 32)).frozen? ⟨W.heap.size, 1, none⟩ = false := var_frozen _ _ _ _
  have res_f2 : (W.alloc (.cells #[.int .i64 0, .int .i64 0, .int .i64 0, .int .i64 0, .int .i64 0, .int .i64 0, .bool false] 32)).frozen? ⟨W.heap.size, 2, none⟩ = false := var_frozen _ _ _ _
  have res_f3 : (W.alloc (.cells #[.int .i64 0, .int .i64 0, .int .i64 0, .int .i64 0, .int .i64 0, .int .i64 0, .bool false] 32)).frozen? ⟨W.heap.size, 3, none⟩ = false := var_frozen _ _ _ _
  have res_f4 : (W.alloc (.cells #[.int .i64 0, .int .i64 0, .int .i64 0, .int .i64 0, .int .i64 0, .int .i64 0, .bool false] 32)).frozen? ⟨W.heap.size, 4, none⟩ = false := var_frozen _ _ _ _
  have res_f5 : (W.alloc (.cells #[.int .i64 0, .int .i64 0, .int .i64 0, .int .i64 0, .int .i64 0, .int .i64 0, .bool false] 32)).frozen? ⟨W.heap.size, 5, none⟩ = false := var_frozen _ _ _ _
  have res_f6 : (W.alloc (.cells #[.int .i64 0, .int .i64 0, .int .i64 0, .int .i64 0, .int .i64 0, .int .i64 0, .bool false] 32)).frozen? ⟨W.heap.size, 6, none⟩ = false := var_frozen _ _ _ _
  generalize (W.alloc (.cells #[.int .i64 0, .int .i64 0, .int .i64 0, .int .i64 0, .int .i64 0, .int .i64 0, .bool false] 32)) = w1 at *
  have hz1 : W.heap.size ≤ w1.heap.size := he1.size
  have b1 : Below W.heap.size W w1 := he1.below (Nat.le_refl _) (by omega)
  replace hr := (hr.below (he1.below (B := W.heap.size) (by omega) (by omega)) (Nat.le_refl _))
  replace g1 := he1.cell g1 (by simp only; omega)
  replace g5 := he1.cell g5 (by simp only; omega)
  replace g6 := he1.cell g6 (by simp only; omega)
  replace g21 := he1.cell g21 (by simp only; omega)
  have res_l : W.heap.size < w1.heap.size := (by omega)
  go_wp2_with fail
  have g1a := (Eff.alloc w1 (.cells #[.int .i64 0, .int .i64 0, .int .i64 0, .int .i64 0, .int .i64 0, .int .i64 0, .bool false] 32)).cell g1 (.inr (Nat.zero_le _))
  have g5a := (Eff.alloc w1 (.cells #[.int .i64 0, .int .i64 0, .int .i64 0, .int .i64 0, .int .i64 0, .int .i64 0, .bool false] 32)).cell g5 (.inr (Nat.zero_le _))
  have g6a := (Eff.alloc w1 (.cells #[.int .i64 0, .int .i64 0, .int .i64 0, .int .i64 0, .int .i64 0, .int .i64 0, .bool false] 32)).cell g6 (.inr (Nat.zero_le _))
  have g21a := (Eff.alloc w1 (.cells #[.int .i64 0, .int .i64 0, .int .i64 0, .int .i64 0, .int .i64 0, .int .i64 0, .bool false] 32)).cell g21 (.inr (Nat.zero_le _))
  go_region
  clear g1a g5a g6a g21a g1 g5 g6 g21
  go_wp2_with fail
  have he2 : Eff 0 0 w1 (w1.alloc (.cells #[.int .i64 v0, .int .i64 0, .int .i64 v2, .int .i64 v3, .int .i64 0, .int .i64 0, .bool (v6 == 1)] 32)).drew := (Eff.alloc _ _).drew
  have hs2 : (w1.alloc (.cells #[.int .i64 v0, .int .i64 0, .int .i64 v2, .int .i64 v3, .int .i64 0, .int .i64 0, .bool (v6 == 1)] 32)).drew.heap.size = w1.heap.size + 1 := (by simp)
  have s_0 : (w1.alloc (.cells #[.int .i64 v0, .int .i64 0, .int .i64 v2, .int .i64 v3, .int .i64 0, .int .i64 0, .bool (v6 == 1)] 32)).drew.cell? ⟨w1.heap.size, 0, none⟩ = some (.int .i64 v0) := var_cell _ _ _ _ _ rfl
  have s_1 : (w1.alloc (.cells #[.int .i64 v0, .int .i64 0, .int .i64 v2, .int .i64 v3, .int .i64 0, .int .i64 0, .bool (v6 == 1)] 32)).drew.cell? ⟨w1.heap.size, 1, none⟩ = some (.int .i64 0) := var_cell _ _ _ _ _ rfl
  have s_2 : (w1.alloc (.cells #[.int .i64 v0, .int .i64 0, .int .i64 v2, .int .i64 v3, .int .i64 0, .int .i64 0, .bool (v6 == 1)] 32)).drew.cell? ⟨w1.heap.size, 2, none⟩ = some (.int .i64 v2) := var_cell _ _ _ _ _ rfl
  have s_3 : (w1.alloc (.cells #[.int .i64 v0, .int .i64 0, .int .i64 v2, .int .i64 v3, .int .i64 0, .int .i64 0, .bool (v6 == 1)] 32)).drew.cell? ⟨w1.heap.size, 3, none⟩ = some (.int .i64 v3) := var_cell _ _ _ _ _ rfl
  have s_4 : (w1.alloc (.cells #[.int .i64 v0, .int .i64 0, .int .i64 v2, .int .i64 v3, .int .i64 0, .int .i64 0, .bool (v6 == 1)] 32)).drew.cell? ⟨w1.heap.size, 4, none⟩ = some (.int .i64 0) := var_cell _ _ _ _ _ rfl
  have s_5 : (w1.alloc (.cells #[.int .i64 v0, .int .i64 0, .int .i64 v2, .int .i64 v3, .int .i64 0, .int .i64 0, .bool (v6 == 1)] 32)).drew.cell? ⟨w1.heap.size, 5, none⟩ = some (.int .i64 0) := var_cell _ _ _ _ _ rfl
  have s_6 : (w1.alloc (.cells #[.int .i64 v0, .int .i64 0, .int .i64 v2, .int .i64 v3, .int .i64 0, .int .i64 0, .bool (v6 == 1)] 32)).drew.cell? ⟨w1.heap.size, 6, none⟩ = some (.bool (v6 == 1)) := var_cell _ _ _ _ _ rfl
  have s_f0 : (w1.alloc (.cells #[.int .i64 v0, .int .i64 0, .int .i64 v2, .int .i64 v3, .int .i64 0, .int .i64 0, .bool (v6 == 1)] 32)).drew.frozen? ⟨w1.heap.size, 0, none⟩ = false := var_frozen _ _ _ _
  have s_f1 : (w1.alloc (.cells #[.int .i64 v0, .int .i64 0, .int .i64 v2, .int .i64 v3, .int .i64 0, .int .i64 0, .bool (v6 == 1)] 32)).drew.frozen? ⟨w1.heap.size, 1, none⟩ = false := var_frozen _ _ _ _
  have s_f2 : (w1.alloc (.cells #[.int .i64 v0, .int .i64 0, .int .i64 v2, .int .i64 v3, .int .i64 0, .int .i64 0, .bool (v6 == 1)] 32)).drew.frozen? ⟨w1.heap.size, 2, none⟩ = false := var_frozen _ _ _ _
  have s_f3 : (w1.alloc (.cells #[.int .i64 v0, .int .i64 0, .int .i64 v2, .int .i64 v3, .int .i64 0, .int .i64 0, .bool (v6 == 1)] 32)).drew.frozen? ⟨w1.heap.size, 3, none⟩ = false := var_frozen _ _ _ _
  have s_f4 : (w1.alloc (.cells #[.int .i64 v0, .int .i64 0, .int .i64 v2, .int .i64 v3, .int .i64 0, .int .i64 0, .bool (v6 == 1)] 32)).drew.frozen? ⟨w1.heap.size, 4, none⟩ = false := var_frozen _ _ _ _
  have s_f5 : (w1.alloc (.cells #[.int .i64 v0, .int .i64 0, .int .i64 v2, .int .i64 v3, .int .i64 0, .int .i64 0, .bool (v6 == 1)] 32)).drew.frozen? ⟨w1.heap.size, 5, none⟩ = false := var_frozen _ _ _ _
  have s_f6 : (w1.alloc (.cells #[.int .i64 v0, .int .i64 0, .int .i64 v2, .int .i64 v3, .int .i64 0, .int .i64 0, .bool (v6 == 1)] 32)).drew.frozen? ⟨w1.heap.size, 6, none⟩ = false := var_frozen _ _ _ _
  generalize (w1.alloc (.cells #[.int .i64 v0, .int .i64 0, .int .i64 v2, .int .i64 v3, .int .i64 0, .int .i64 0, .bool (v6 == 1)] 32)).drew = w2 at *
  have hz2 : w1.heap.size ≤ w2.heap.size := he2.size
  have b2 : Below W.heap.size W w2 := b1.trans (he2.below b1.size (by omega))
  replace hr := (hr.below (he2.below (B := W.heap.size) (by omega) (by omega)) (Nat.le_refl _))
  replace res_f0 := (he2.frozen res_0 (by simp only; omega)).trans res_f0
  replace res_f1 := (he2.frozen res_1 (by simp only; omega)).trans res_f1
  replace res_f2 := (he2.frozen res_2 (by simp only; omega)).trans res_f2
  replace res_f3 := (he2.frozen res_3 (by simp only; omega)).trans res_f3
  replace res_f4 := (he2.frozen res_4 (by simp only; omega)).trans res_f4
  replace res_f5 := (he2.frozen res_5 (by simp only; omega)).trans res_f5
  replace res_f6 := (he2.frozen res_6 (by simp only; omega)).trans res_f6
  replace res_0 := he2.cell res_0 (by simp only; omega)
  replace res_1 := he2.cell res_1 (by simp only; omega)
  replace res_2 := he2.cell res_2 (by simp only; omega)
  replace res_3 := he2.cell res_3 (by simp only; omega)
  replace res_4 := he2.cell res_4 (by simp only; omega)
  replace res_5 := he2.cell res_5 (by simp only; omega)
  replace res_6 := he2.cell res_6 (by simp only; omega)
  replace res_l := Nat.lt_of_lt_of_le res_l hz2
  rw [hs1] at s_0 s_f0
  rw [hs1] at s_1 s_f1
  rw [hs1] at s_2 s_f2
  rw [hs1] at s_3 s_f3
  rw [hs1] at s_4 s_f4
  rw [hs1] at s_5 s_f5
  rw [hs1] at s_6 s_f6
  have s_l : W.heap.size + 1 < w2.heap.size := (by omega)
  refine (impl_GetNum _ 22 c l 2 3 _hnc (by omega) w2 (hr.more (by omega))).mono ?_
  rintro e w3 ⟨rfl, hb⟩
  have he3 : Eff 0 0 w2 w3 := Eff.of hb
  have hz3 : w2.heap.size ≤ w3.heap.size := he3.size
  have b3 : Below W.heap.size W w3 := b2.trans (he3.below b2.size (by omega))
  replace hr := (hr.below (he3.below (B := W.heap.size) (by omega) (by omega)) (Nat.le_refl _))
  replace res_f0 := (he3.frozen res_0 (by simp only; omega)).trans res_f0
  replace res_f1 := (he3.frozen res_1 (by simp only; omega)).trans res_f1
  replace res_f2 := (he3.frozen res_2 (by simp only; omega)).trans res_f2
  replace res_f3 := (he3.frozen res_3 (by simp only; omega)).trans res_f3
  replace res_f4 := (he3.frozen res_4 (by simp only; omega)).trans res_f4
  replace res_f5 := (he3.frozen res_5 (by simp only; omega)).trans res_f5
  replace res_f6 := (he3.frozen res_6 (by simp only; omega)).trans res_f6
  replace s_f0 := (he3.frozen s_0 (by simp only; omega)).trans s_f0
  replace s_f1 := (he3.frozen s_1 (by simp only; omega)).trans s_f1
  replace s_f2 := (he3.frozen s_2 (by simp only; omega)).trans s_f2
  replace s_f3 := (he3.frozen s_3 (by simp only; omega)).trans s_f3
  replace s_f4 := (he3.frozen s_4 (by simp only; omega)).trans s_f4
  replace s_f5 := (he3.frozen s_5 (by simp only; omega)).trans s_f5
  replace s_f6 := (he3.frozen s_6 (by simp only; omega)).trans s_f6
  replace res_0 := he3.cell res_0 (by simp only; omega)
  replace res_1 := he3.cell res_1 (by simp only; omega)
  replace res_2 := he3.cell res_2 (by simp only; omega)
  replace res_3 := he3.cell res_3 (by simp only; omega)
  replace res_4 := he3.cell res_4 (by simp only; omega)
  replace res_5 := he3.cell res_5 (by simp only; omega)
  replace res_6 := he3.cell res_6 (by simp only; omega)
  replace s_0 := he3.cell s_0 (by simp only; omega)
  replace s_1 := he3.cell s_1 (by simp only; omega)
  replace s_2 := he3.cell s_2 (by simp only; omega)
  replace s_3 := he3.cell s_3 (by simp only; omega)
  replace s_4 := he3.cell s_4 (by simp only; omega)
  replace s_5 := he3.cell s_5 (by simp only; omega)
  replace s_6 := he3.cell s_6 (by simp only; omega)
  replace res_l := Nat.lt_of_lt_of_le res_l hz3
  replace s_l := Nat.lt_of_lt_of_le s_l hz3
  clear hb
  rw [H1.out]
  go_wp2_with fail
  have he4 : Eff (W.heap.size + 1) (W.heap.size + 1 + 1) w3 (w3.setCell ⟨W.heap.size + 1, 1, none⟩ (.int .i64 v1)) := eff_set _ _ _ _
  replace res_f0 := (he4.frozen res_0 (by simp only; omega)).trans res_f0
  replace res_f1 := (he4.frozen res_1 (by simp only; omega)).trans res_f1
  replace res_f2 := (he4.frozen res_2 (by simp only; omega)).trans res_f2
  replace res_f3 := (he4.frozen res_3 (by simp only; omega)).trans res_f3
  replace res_f4 := (he4.frozen res_4 (by simp only; omega)).trans res_f4
  replace res_f5 := (he4.frozen res_5 (by simp only; omega)).trans res_f5
  replace res_f6 := (he4.frozen res_6 (by simp only; omega)).trans res_f6
  replace s_f0 := set_frozen (p := ⟨W.heap.size + 1, 1, none⟩) s_f0 (.int .i64 v1)
  replace s_f1 := set_frozen (p := ⟨W.heap.size + 1, 1, none⟩) s_f1 (.int .i64 v1)
  replace s_f2 := set_frozen (p := ⟨W.heap.size + 1, 1, none⟩) s_f2 (.int .i64 v1)
  replace s_f3 := set_frozen (p := ⟨W.heap.size + 1, 1, none⟩) s_f3 (.int .i64 v1)
  replace s_f4 := set_frozen (p := ⟨W.heap.size + 1, 1, none⟩) s_f4 (.int .i64 v1)
  replace s_f5 := set_frozen (p := ⟨W.heap.size + 1, 1, none⟩) s_f5 (.int .i64 v1)
  replace s_f6 := set_frozen (p := ⟨W.heap.size + 1, 1, none⟩) s_f6 (.int .i64 v1)
  replace res_0 := he4.cell res_0 (by simp only; omega)
  replace res_1 := he4.cell res_1 (by simp only; omega)
  replace res_2 := he4.cell res_2 (by simp only; omega)
  replace res_3 := he4.cell res_3 (by simp only; omega)
  replace res_4 := he4.cell res_4 (by simp only; omega)
  replace res_5 := he4.cell res_5 (by simp only; omega)
  replace res_6 := he4.cell res_6 (by simp only; omega)
  replace s_0 := set_other (b' := W.heap.size + 1) (o' := 1) s_0 (.int .i64 v1) (.inr (by omega))
  replace s_1 := set_same s_1 (.int .i64 v1)
  replace s_2 := set_other (b' := W.heap.size + 1) (o' := 1) s_2 (.int .i64 v1) (.inr (by omega))
  replace s_3 := set_other (b' := W.heap.size + 1) (o' := 1) s_3 (.int .i64 v1) (.inr (by omega))
  replace s_4 := set_other (b' := W.heap.size + 1) (o' := 1) s_4 (.int .i64 v1) (.inr (by omega))
  replace s_5 := set_other (b' := W.heap.size + 1) (o' := 1) s_5 (.int .i64 v1) (.inr (by omega))
  replace s_6 := set_other (b' := W.heap.size + 1) (o' := 1) s_6 (.int .i64 v1) (.inr (by omega))
  have hz4 : w3.heap.size ≤ (w3.setCell ⟨W.heap.size + 1, 1, none⟩ (.int .i64 v1)).heap.size := he4.size
  generalize (w3.setCell ⟨W.heap.size + 1, 1, none⟩ (.int .i64 v1)) = w4 at *
  have b4 : Below W.heap.size W w4 := b3.trans (he4.below b3.size (by omega))
  replace hr := (hr.below (he4.below (B := W.heap.size) (by omega) (by omega)) (Nat.le_refl _))
  replace res_l := Nat.lt_of_lt_of_le res_l hz4
  replace s_l := Nat.lt_of_lt_of_le s_l hz4
  refine (impl_GetNum _ 22 c l 7 7 _hnc (by omega) w4 (hr.more (by omega))).mono ?_
  rintro e w5 ⟨rfl, hb⟩
  have he5 : Eff 0 0 w4 w5 := Eff.of hb
  have hz5 : w4.heap.size ≤ w5.heap.size := he5.size
  have b5 : Below W.heap.size W w5 := b4.trans (he5.below b4.size (by omega))
  replace hr := (hr.below (he5.below (B := W.heap.size) (by omega) (by omega)) (Nat.le_refl _))
  replace res_f0 := (he5.frozen res_0 (by simp only; omega)).trans res_f0
  replace res_f1 := (he5.frozen res_1 (by simp only; omega)).trans res_f1
  replace res_f2 := (he5.frozen res_2 (by simp only; omega)).trans res_f2
  replace res_f3 := (he5.frozen res_3 (by simp only; omega)).trans res_f3
  replace res_f4 := (he5.frozen res_4 (by simp only; omega)).trans res_f4
  replace res_f5 := (he5.frozen res_5 (by simp only; omega)).trans res_f5
  replace res_f6 := (he5.frozen res_6 (by simp only; omega)).trans res_f6
  replace s_f0 := (he5.frozen s_0 (by simp only; omega)).trans s_f0
  replace s_f1 := (he5.frozen s_1 (by simp only; omega)).trans s_f1
  replace s_f2 := (he5.frozen s_2 (by simp only; omega)).trans s_f2
  replace s_f3 := (he5.frozen s_3 (by simp only; omega)).trans s_f3
  replace s_f4 := (he5.frozen s_4 (by simp only; omega)).trans s_f4
  replace s_f5 := (he5.frozen s_5 (by simp only; omega)).trans s_f5
  replace s_f6 := (he5.frozen s_6 (by simp only; omega)).trans s_f6
  replace res_0 := he5.cell res_0 (by simp only; omega)
  replace res_1 := he5.cell res_1 (by simp only; omega)
  replace res_2 := he5.cell res_2 (by simp only; omega)
  replace res_3 := he5.cell res_3 (by simp only; omega)
  replace res_4 := he5.cell res_4 (by simp only; omega)
  replace res_5 := he5.cell res_5 (by simp only; omega)
  replace res_6 := he5.cell res_6 (by simp only; omega)
  replace s_0 := he5.cell s_0 (by simp only; omega)
  replace s_1 := he5.cell s_1 (by simp only; omega)
  replace s_2 := he5.cell s_2 (by simp only; omega)
  replace s_3 := he5.cell s_3 (by simp only; omega)
  replace s_4 := he5.cell s_4 (by simp only; omega)
  replace s_5 := he5.cell s_5 (by simp only; omega)
  replace s_6 := he5.cell s_6 (by simp only; omega)
  replace res_l := Nat.lt_of_lt_of_le res_l hz5
  replace s_l := Nat.lt_of_lt_of_le s_l hz5
  clear hb
  rw [H4.out]
  go_wp2_with fail
  have he6 : Eff (W.heap.size + 1) (W.heap.size + 1 + 1) w5 (w5.setCell ⟨W.heap.size + 1, 4, none⟩ (.int .i64 v4)) := eff_set _ _ _ _
  replace res_f0 := (he6.frozen res_0 (by simp only; omega)).trans res_f0
  replace res_f1 := (he6.frozen res_1 (by simp only; omega)).trans res_f1
  replace res_f2 := (he6.frozen res_2 (by simp only; omega)).trans res_f2
  replace res_f3 := (he6.frozen res_3 (by simp only; omega)).trans res_f3
  replace res_f4 := (he6.frozen res_4 (by simp only; omega)).trans res_f4
  replace res_f5 := (he6.frozen res_5 (by simp only; omega)).trans res_f5
  replace res_f6 := (he6.frozen res_6 (by simp only; omega)).trans res_f6
  replace s_f0 := set_frozen (p := ⟨W.heap.size + 1, 4, none⟩) s_f0 (.int .i64 v4)
  replace s_f1 := set_frozen (p := ⟨W.heap.size + 1, 4, none⟩) s_f1 (.int .i64 v4)
  replace s_f2 := set_frozen (p := ⟨W.heap.size + 1, 4, none⟩) s_f2 (.int .i64 v4)
  replace s_f3 := set_frozen (p := ⟨W.heap.size + 1, 4, none⟩) s_f3 (.int .i64 v4)
  replace s_f4 := set_frozen (p := ⟨W.heap.size + 1, 4, none⟩) s_f4 (.int .i64 v4)
  replace s_f5 := set_frozen (p := ⟨W.heap.size + 1, 4, none⟩) s_f5 (.int .i64 v4)
  replace s_f6 := set_frozen (p := ⟨W.heap.size + 1, 4, none⟩) s_f6 (.int .i64 v4)
  replace res_0 := he6.cell res_0 (by simp only; omega)
  replace res_1 := he6.cell res_1 (by simp only; omega)
  replace res_2 := he6.cell res_2 (by simp only; omega)
  replace res_3 := he6.cell res_3 (by simp only; omega)
  replace res_4 := he6.cell res_4 (by simp only; omega)
  replace res_5 := he6.cell res_5 (by simp only; omega)
  replace res_6 := he6.cell res_6 (by simp only; omega)
  replace s_0 := set_other (b' := W.heap.size + 1) (o' := 4) s_0 (.int .i64 v4) (.inr (by omega))
  replace s_1 := set_other (b' := W.heap.size + 1) (o' := 4) s_1 (.int .i64 v4) (.inr (by omega))
  replace s_2 := set_other (b' := W.heap.size + 1) (o' := 4) s_2 (.int .i64 v4) (.inr (by omega))
  replace s_3 := set_other (b' := W.heap.size + 1) (o' := 4) s_3 (.int .i64 v4) (.inr (by omega))
  replace s_4 := set_same s_4 (.int .i64 v4)
  replace s_5 := set_other (b' := W.heap.size + 1) (o' := 4) s_5 (.int .i64 v4) (.inr (by omega))
  replace s_6 := set_other (b' := W.heap.size + 1) (o' := 4) s_6 (.int .i64 v4) (.inr (by omega))
  have hz6 : w5.heap.size ≤ (w5.setCell ⟨W.heap.size + 1, 4, none⟩ (.int .i64 v4)).heap.size := he6.size
  generalize (w5.setCell ⟨W.heap.size + 1, 4, none⟩ (.int .i64 v4)) = w6 at *
  have b6 : Below W.heap.size W w6 := b5.trans (he6.below b5.size (by omega))
  replace hr := (hr.below (he6.below (B := W.heap.size) (by omega) (by omega)) (Nat.le_refl _))
  replace res_l := Nat.lt_of_lt_of_le res_l hz6
  replace s_l := Nat.lt_of_lt_of_le s_l hz6
  refine (impl_GetNum _ 22 c l 14 7 _hnc (by omega) w6 (hr.more (by omega))).mono ?_
  rintro e w7 ⟨rfl, hb⟩
  have he7 : Eff 0 0 w6 w7 := Eff.of hb
  have hz7 : w6.heap.size ≤ w7.heap.size := he7.size
  have b7 : Below W.heap.size W w7 := b6.trans (he7.below b6.size (by omega))
  replace hr := (hr.below (he7.below (B := W.heap.size) (by omega) (by omega)) (Nat.le_refl _))
  replace res_f0 := (he7.frozen res_0 (by simp only; omega)).trans res_f0
  replace res_f1 := (he7.frozen res_1 (by simp only; omega)).trans res_f1
  replace res_f2 := (he7.frozen res_2 (by simp only; omega)).trans res_f2
  replace res_f3 := (he7.frozen res_3 (by simp only; omega)).trans res_f3
  replace res_f4 := (he7.frozen res_4 (by simp only; omega)).trans res_f4
  replace res_f5 := (he7.frozen res_5 (by simp only; omega)).trans res_f5
  replace res_f6 := (he7.frozen res_6 (by simp only; omega)).trans res_f6
  replace s_f0 := (he7.frozen s_0 (by simp only; omega)).trans s_f0
  replace s_f1 := (he7.frozen s_1 (by simp only; omega)).trans s_f1
  replace s_f2 := (he7.frozen s_2 (by simp only; omega)).trans s_f2
  replace s_f3 := (he7.frozen s_3 (by simp only; omega)).trans s_f3
  replace s_f4 := (he7.frozen s_4 (by simp only; omega)).trans s_f4
  replace s_f5 := (he7.frozen s_5 (by simp only; omega)).trans s_f5
  replace s_f6 := (he7.frozen s_6 (by simp only; omega)).trans s_f6
  replace res_0 := he7.cell res_0 (by simp only; omega)
  replace res_1 := he7.cell res_1 (by simp only; omega)
  replace res_2 := he7.cell res_2 (by simp only; omega)
  replace res_3 := he7.cell res_3 (by simp only; omega)
  replace res_4 := he7.cell res_4 (by simp only; omega)
  replace res_5 := he7.cell res_5 (by simp only; omega)
  replace res_6 := he7.cell res_6 (by simp only; omega)
  replace s_0 := he7.cell s_0 (by simp only; omega)
  replace s_1 := he7.cell s_1 (by simp only; omega)
  replace s_2 := he7.cell s_2 (by simp only; omega)
  replace s_3 := he7.cell s_3 (by simp only; omega)
  replace s_4 := he7.cell s_4 (by simp only; omega)
  replace s_5 := he7.cell s_5 (by simp only; omega)
  replace s_6 := he7.cell s_6 (by simp only; omega)
  replace res_l := Nat.lt_of_lt_of_le res_l hz7
  replace s_l := Nat.lt_of_lt_of_le s_l hz7
  clear hb
  rw [H5.out]
  go_wp2_with fail
  have he8 : Eff (W.heap.size + 1) (W.heap.size + 1 + 1) w7 (w7.setCell ⟨W.heap.size + 1, 5, none⟩ (.int .i64 v5)) := eff_set _ _ _ _
  replace res_f0 := (he8.frozen res_0 (by simp only; omega)).trans res_f0
  replace res_f1 := (he8.frozen res_1 (by simp only; omega)).trans res_f1
  replace res_f2 := (he8.frozen res_2 (by simp only; omega)).trans res_f2
  replace res_f3 := (he8.frozen res_3 (by simp only; omega)).trans res_f3
  replace res_f4 := (he8.frozen res_4 (by simp only; omega)).trans res_f4
  replace res_f5 := (he8.frozen res_5 (by simp only; omega)).trans res_f5
  replace res_f6 := (he8.frozen res_6 (by simp only; omega)).trans res_f6
  replace s_f0 := set_frozen (p := ⟨W.heap.size + 1, 5, none⟩) s_f0 (.int .i64 v5)
  replace s_f1 := set_frozen (p := ⟨W.heap.size + 1, 5, none⟩) s_f1 (.int .i64 v5)
  replace s_f2 := set_frozen (p := ⟨W.heap.size + 1, 5, none⟩) s_f2 (.int .i64 v5)
  replace s_f3 := set_frozen (p := ⟨W.heap.size + 1, 5, none⟩) s_f3 (.int .i64 v5)
  replace s_f4 := set_frozen (p := ⟨W.heap.size + 1, 5, none⟩) s_f4 (.int .i64 v5)
  replace s_f5 := set_frozen (p := ⟨W.heap.size + 1, 5, none⟩) s_f5 (.int .i64 v5)
  replace s_f6 := set_frozen (p := ⟨W.heap.size + 1, 5, none⟩) s_f6 (.int .i64 v5)
  replace res_0 := he8.cell res_0 (by simp only; omega)
  replace res_1 := he8.cell res_1 (by simp only; omega)
  replace res_2 := he8.cell res_2 (by simp only; omega)
  replace res_3 := he8.cell res_3 (by simp only; omega)
  replace res_4 := he8.cell res_4 (by simp only; omega)
  replace res_5 := he8.cell res_5 (by simp only; omega)
  replace res_6 := he8.cell res_6 (by simp only; omega)
  replace s_0 := set_other (b' := W.heap.size + 1) (o' := 5) s_0 (.int .i64 v5) (.inr (by omega))
  replace s_1 := set_other (b' := W.heap.size + 1) (o' := 5) s_1 (.int .i64 v5) (.inr (by omega))
  replace s_2 := set_other (b' := W.heap.size + 1) (o' := 5) s_2 (.int .i64 v5) (.inr (by omega))
  replace s_3 := set_other (b' := W.heap.size + 1) (o' := 5) s_3 (.int .i64 v5) (.inr (by omega))
  replace s_4 := set_other (b' := W.heap.size + 1) (o' := 5) s_4 (.int .i64 v5) (.inr (by omega))
  replace s_5 := set_same s_5 (.int .i64 v5)
  replace s_6 := set_other (b' := W.heap.size + 1) (o' := 5) s_6 (.int .i64 v5) (.inr (by omega))
  have hz8 : w7.heap.size ≤ (w7.setCell ⟨W.heap.size + 1, 5, none⟩ (.int .i64 v5)).heap.size := he8.size
  generalize (w7.setCell ⟨W.heap.size + 1, 5, none⟩ (.int .i64 v5)) = w8 at *
  have b8 : Below W.heap.size W w8 := b7.trans (he8.below b7.size (by omega))
  replace hr := (hr.below (he8.below (B := W.heap.size) (by omega) (by omega)) (Nat.le_refl _))
  replace res_l := Nat.lt_of_lt_of_le res_l hz8
  replace s_l := Nat.lt_of_lt_of_le s_l hz8
  refine (impl_EventBody v0 v1 v2 v3 v4 v5 (v6 == 1) w8).mono ?_
  rintro e w9 hpost
  rw [HO.out] at hpost
  obtain ⟨Ar, cr, rfl, r, hb⟩ := hpost.yes (N := 22)
  clear hpost
  have he9 : Eff 0 0 w8 w9 := Eff.of hb
  have hz9 : w8.heap.size ≤ w9.heap.size := he9.size
  have b9 : Below W.heap.size W w9 := b8.trans (he9.below b8.size (by omega))
  replace hr := (hr.below (he9.below (B := W.heap.size) (by omega) (by omega)) (Nat.le_refl _))
  replace res_f0 := (he9.frozen res_0 (by simp only; omega)).trans res_f0
  replace res_f1 := (he9.frozen res_1 (by simp only; omega)).trans res_f1
  replace res_f2 := (he9.frozen res_2 (by simp only; omega)).trans res_f2
  replace res_f3 := (he9.frozen res_3 (by simp only; omega)).trans res_f3
  replace res_f4 := (he9.frozen res_4 (by simp only; omega)).trans res_f4
  replace res_f5 := (he9.frozen res_5 (by simp only; omega)).trans res_f5
  replace res_f6 := (he9.frozen res_6 (by simp only; omega)).trans res_f6
  replace s_f0 := (he9.frozen s_0 (by simp only; omega)).trans s_f0
  replace s_f1 := (he9.frozen s_1 (by simp only; omega)).trans s_f1
  replace s_f2 := (he9.frozen s_2 (by simp only; omega)).trans s_f2
  replace s_f3 := (he9.frozen s_3 (by simp only; omega)).trans s_f3
  replace s_f4 := (he9.frozen s_4 (by simp only; omega)).trans s_f4
  replace s_f5 := (he9.frozen s_5 (by simp only; omega)).trans s_f5
  replace s_f6 := (he9.frozen s_6 (by simp only; omega)).trans s_f6
  replace res_0 := he9.cell res_0 (by simp only; omega)
  replace res_1 := he9.cell res_1 (by simp only; omega)
  replace res_2 := he9.cell res_2 (by simp only; omega)
  replace res_3 := he9.cell res_3 (by simp only; omega)
  replace res_4 := he9.cell res_4 (by simp only; omega)
  replace res_5 := he9.cell res_5 (by simp only; omega)
  replace res_6 := he9.cell res_6 (by simp only; omega)
  replace s_0 := he9.cell s_0 (by simp only; omega)
  replace s_1 := he9.cell s_1 (by simp only; omega)
  replace s_2 := he9.cell s_2 (by simp only; omega)
  replace s_3 := he9.cell s_3 (by simp only; omega)
  replace s_4 := he9.cell s_4 (by simp only; omega)
  replace s_5 := he9.cell s_5 (by simp only; omega)
  replace s_6 := he9.cell s_6 (by simp only; omega)
  replace res_l := Nat.lt_of_lt_of_le res_l hz9
  replace s_l := Nat.lt_of_lt_of_le s_l hz9
  clear hb
  have hc1 := (OwnB.rd r (B := w9.heap.size) (by omega)).str 22 5 cr Tryd.underlying22 Tryd.underlying5 9 Tryd.underlying9
  have hc2 := hr.str 22 5 c Tryd.underlying22 Tryd.underlying5 9 Tryd.underlying9
  have hne := (beq_toListBytes _ _).symm.trans (bstr_other HQ.out)
  obtain ⟨s1, hs1x⟩ : ∃ s, bstr (evBytes v0.toNat v1.toNat v2.toNat v3.toNat v4.toNat v5.toNat (v6 == 1)) = s := ⟨_, rfl⟩
  obtain ⟨s2, hs2x⟩ : ∃ s, bstr l = s := ⟨_, rfl⟩
  rw [hs1x] at hc1 hne
  rw [hs2x] at hc2 hne
  clear hs1x hs2x
  go_wp2
  refine bodyPost_ret (v := .tuple #[.agg #[.int .i64 0, .int .i64 0, .int .i64 0, .int .i64 0, .int .i64 0, .int .i64 0, .bool false], .bool false]) (by simp [results, Tryd.results23, go_sem, *]) rfl ?_
  exact EvR.no HG.out (below_set7 b9)
set_option maxHeartbeats 4000000 in
set_option maxRecDepth 100000 in
theorem impl_BodyEvent_same (c : Nat) (l : List UInt8) (v0 : Int) (t0 : Bool) (v1 : Int) (t1 : Bool) (v2 : Int) (t2 : Bool) (v3 : Int) (t3 : Bool) (v4 : Int) (t4 : Bool) (v5 : Int) (t5 : Bool) (v6 : Int) (t6 : Bool) (H0 : Hid (getNum l 1 1 = (v0, t0))) (H1 : Hid (getNum l 2 3 = (v1, t1))) (H2 : Hid (getNum l 5 1 = (v2, t2))) (H3 : Hid (getNum l 6 1 = (v3, t3))) (H4 : Hid (getNum l 7 7 = (v4, t4))) (H5 : Hid (getNum l 14 7 = (v5, t5))) (H6 : Hid (getNum l 21 1 = (v6, t6))) (b off : Nat) (_hnc : 22 ≤ c) (_hc : c ≤ maxLen) (_p0 : 0 ≤ v0) (_q0 : v0 ≤ 255) (_p2 : 0 ≤ v2) (_q2 : v2 ≤ 255) (_p3 : 0 ≤ v3) (_q3 : v3 ≤ 255) (_p6 : 0 ≤ v6) (_q6 : v6 ≤ 255) (W : World) (g1 : W.cell? ⟨b, off + 1, none⟩ = some (.int .u8 v0)) (g5 : W.cell? ⟨b, off + 5, none⟩ = some (.int .u8 v2)) (g6 : W.cell? ⟨b, off + 6, none⟩ = some (.int .u8 v3)) (g21 : W.cell? ⟨b, off + 21, none⟩ = some (.int .u8 v6)) (HO : Hid (evOk v0 v1 v2 v3 v4 v5 (v6 == 1) = true)) (HQ : Hid (evBytes v0.toNat v1.toNat v2.toNat v3.toNat v4.toNat v5.toNat (v6 == 1) = l)) (HG : Hid (evGood l = true)) (hr : Rd W W.heap.size 1 (some ⟨b, off, none⟩) 22 (Lib.byteCells l)) : Calls Tryd.prog 23 #[.slice (some ⟨b, off, none⟩) 22 c] W (EvR l W) := by
  go_enter Tryd.func23, Tryd.ntmps23
  go_wp2_with fail
  have he1 : Eff 0 0 W (W.alloc (.cells #[.int .i64 0, .int .i64 0, .int .i64 0, .int .i64 0, .int .i64 0, .int .i64 0, .bool false] 32)) := Eff.alloc _ _
  have hs1 : (W.alloc (.cells #[.int .i64 0, .int .i64 0, .int .i64 0, .int .i64 0, .int .i64 0, .int .i64 0, .bool false] 32)).heap.size = W.heap.size + 1 := (by simp)
  have res_0 : (W.alloc (.cells #[.int .i64 0, .int .i64 0, .int .i64 0, .int .i64 0, .int .i64 0, .int .i64 0, .bool false] 32)).cell? ⟨W.heap.size, 0, none⟩ = some (.int .i64 0) := var_cell _ _ _ _ _ rfl
  have res_1 : (W.alloc (.cells #[.int .i64 0, .int .i64 0, .int .i64 0, .int .i64 0, .int .i64 0, .int .i64 0, .bool false] 32)).cell? ⟨W.heap.size, 1, none⟩ = some (.int .i64 0) := var_cell _ _ _ _ _ rfl
  have res_2 : (W.alloc (.cells #[.int .i64 0, .int .i64 0, .int .i64 0, .int .i64 0, .int .i64 0, .int .i64 0, .bool false] 32)).cell? ⟨W.heap.size, 2, none⟩ = some (.int .i64 0) := var_cell _ _ _ _ _ rfl
  have res_3 : (W.alloc (.cells #[.int .i64 0, .int .i64 0, .int .i64 0, .int .i64 0, .int .i64 0, .int .i64 0, .bool false] 32)).cell? ⟨W.heap.size, 3, none⟩ = some (.int .i64 0) := var_cell _ _ _ _ _ rfl
  have res_4 : (W.alloc (.cells #[.int .i64 0, .int .i64 0, .int .i64 0, .int .i64 0, .int .i64 0, .int .i64 0, .bool false] 32)).cell? ⟨W.heap.size, 4, none⟩ = some (.int .i64 0) := var_cell _ _ _ _ _ rfl
  have res_5 : (W.alloc (.cells #[.int .i64 0, .int .i64 0, .int .i64 0, .int .i64 0, .int .i64 0, .int .i64 0, .bool false] 32)).cell? ⟨W.heap.size, 5, none⟩ = some (.int .i64 0) := var_cell _ _ _ _ _ rfl
  have res_6 : (W.alloc (.cells #[.int .i64 0, .int .i64 0, .int .i64 0, .int .i64 0, .int .i64 0, .int .i64 0, .bool false] 32)).cell? ⟨W.heap.size, 6, none⟩ = some (.bool false) := var_cell _ _ _ _ _ rfl
  have res_f0 : (W.alloc (.cells #[.int .i64 0, .int .i64 0, .int .i64 0, .int .i64 0, .int .i64 0, .int .i64 0, .bool false] 32)).frozen? ⟨W.heap.size, 0, none⟩ = false := var_frozen _ _ _ _
  have res_f1 : (W.alloc (.cells #[.int .i64 0, .int .i64 0, .int .i64 0, .int .i64 0, .int .i64 0, .int .i64 0, .bool false] 32)).frozen? ⟨W.heap.size, 1, none⟩ = false := var_frozen _ _ _ _
  have res_f2 : (W.alloc (.cells #[.int .i64 0, .int .i64 0, .int .i64 0, .int .i64 0, .int .i64 0, .int .i64 0, .bool false] 32)).frozen? ⟨W.heap.size, 2, none⟩ = false := var_frozen _ _ _ _
  have res_f3 : (W.alloc (.cells #[.int .i64 0, .int .i64 0, .int .i64 0, .int .i64 0, .int .i64 0, .int .i64 0, .bool false] 32)).frozen? ⟨W.heap.size, 3, none⟩ = false := var_frozen _ _ _ _
  have res_f4 : (W.alloc (.cells #[.int .i64 0, .int .i64 0, .int .i64 0, .int .i64 0, .int .i64 0, .int .i64 0, .bool false] 32)).frozen? ⟨W.heap.size, 4, none⟩ = false := var_frozen _ _ _ _
  have res_f5 : (W.alloc (.cells #[.int .i64 0, .int .i64 0, .int .i64 0, .int .i64 0, .int .i64 0, .int .i64 0, .bool false] 32)).frozen? ⟨W.heap.size, 5, none⟩ = false := var_frozen _ _ _ _
  have res_f6 : (W.alloc (.cells #[.int .i64 0, .int .i64 0, .int .i64 0, .int .i64 0, .int .i64 0, .int .i64 0, .bool false] 32)).frozen? ⟨W.heap.size, 6, none⟩ = false := var_frozen _ _ _ _
  generalize (W.alloc (.cells #[.int .i64 0, .int .i64 0, .int .i64 0, .int .i64 0, .int .i64 0, .int .i64 0, .bool false] 32)) = w1 at *
  have hz1 : W.heap.size ≤ w1.heap.size := he1.size
  have b1 : Below W.heap.size W w1 := he1.below (Nat.le_refl _) (by omega)
  replace hr := (hr.below (he1.below (B := W.heap.size) (by omega) (by omega)) (Nat.le_refl _))
  replace g1 := he1.cell g1 (by simp only; omega)
  replace g5 := he1.cell g5 (by simp only; omega)
  replace g6 := he1.cell g6 (by simp only; omega)
  replace g21 := he1.cell g21 (by simp only; omega)
  have res_l : W.heap.size < w1.heap.size := (by omega)
  go_wp2_with fail
  have g1a := (Eff.alloc w1 (.cells #[.int .i64 0, .int .i64 0, .int .i64 0, .int .i64 0, .int .i64 0, .int .i64 0, .bool false] 32)).cell g1 (.inr (Nat.zero_le _))
  have g5a := (Eff.alloc w1 (.cells #[.int .i64 0, .int .i64 0, .int .i64 0, .int .i64 0, .int .i64 0, .int .i64 0, .bool false] 32)).cell g5 (.inr (Nat.zero_le _))
  have g6a := (Eff.alloc w1 (.cells #[.int .i64 0, .int .i64 0, .int .i64 0, .int .i64 0, .int .i64 0, .int .i64 0, .bool false] 32)).cell g6 (.inr (Nat.zero_le _))
  have g21a := (Eff.alloc w1 (.cells #[.int .i64 0, .int .i64 0, .int .i64 0, .int .i64 0, .int .i64 0, .int .i64 0, .bool false] 32)).cell g21 (.inr (Nat.zero_le _))
  go_region
  clear g1a g5a g6a g21a g1 g5 g6 g21
  go_wp2_with fail
  have he2 : Eff 0 0 w1 (w1.alloc (.cells #[.int .i64 v0, .int .i64 0, .int .i64 v2, .int .i64 v3, .int .i64 0, .int .i64 0, .bool (v6 == 1)] 32)).drew := (Eff.alloc _ _).drew
  have hs2 : (w1.alloc (.cells #[.int .i64 v0, .int .i64 0, .int .i64 v2, .int .i64 v3, .int .i64 0, .int .i64 0, .bool (v6 == 1)] 32)).drew.heap.size = w1.heap.size + 1 := (by simp)
  have s_0 : (w1.alloc (.cells #[.int .i64 v0, .int .i64 0, .int .i64 v2, .int .i64 v3, .int .i64 0, .int .i64 0, .bool (v6 == 1)] 32)).drew.cell? ⟨w1.heap.size, 0, none⟩ = some (.int .i64 v0) := var_cell _ _ _ _ _ rfl
  have s_1 : (w1.alloc (.cells #[.int .i64 v0, .int .i64 0, .int .i64 v2, .int .i64 v3, .int .i64 0, .int .i64 0, .bool (v6 == 1)] 32)).drew.cell? ⟨w1.heap.size, 1, none⟩ = some (.int .i64 0) := var_cell _ _ _ _ _ rfl
  have s_2 : (w1.alloc (.cells #[.int .i64 v0, .int .i64 0, .int .i64 v2, .int .i64 v3, .int .i64 0, .int .i64 0, .bool (v6 == 1)] 32)).drew.cell? ⟨w1.heap.size, 2, none⟩ = some (.int .i64 v2) := var_cell _ _ _ _ _ rfl
  have s_3 : (w1.alloc (.cells #[.int .i64 v0, .int .i64 0, .int .i64 v2, .int .i64 v3, .int .i64 0, .int .i64 0, .bool (v6 == 1)] 32)).drew.cell? ⟨w1.heap.size, 3, none⟩ = some (.int .i64 v3) := var_cell _ _ _ _ _ rfl
  have s_4 : (w1.alloc (.cells #[.int .i64 v0, .int .i64 0, .int .i64 v2, .int .i64 v3, .int .i64 0, .int .i64 0, .bool (v6 == 1)] 32)).drew.cell? ⟨w1.heap.size, 4, none⟩ = some (.int .i64 0) := var_cell _ _ _ _ _ rfl
  have s_5 : (w1.alloc (.cells #[.int .i64 v0, .int .i64 0, .int .i64 v2, .int .i64 v3, .int .i64 0, .int .i64 0, .bool (v6 == 1)] 32)).drew.cell? ⟨w1.heap.size, 5, none⟩ = some (.int .i64 0) := var_cell _ _ _ _ _ rfl
  have s_6 : (w1.alloc (.cells #[.int .i64 v0, .int .i64 0, .int .i64 v2, .int .i64 v3, .int .i64 0, .int .i64 0, .bool (v6 == 1)] 32)).drew.cell? ⟨w1.heap.size, 6, none⟩ = some (.bool (v6 == 1)) := var_cell _ _ _ _ _ rfl
  have s_f0 : (w1.alloc (.cells #[.int .i64 v0, .int .i64 0, .int .i64 v2, .int .i64 v3, .int .i64 0, .int .i64 0, .bool (v6 == 1)] 32)).drew.frozen? ⟨w1.heap.size, 0, none⟩ = false := var_frozen _ _ _ _
  have s_f1 : (w1.alloc (.cells #[.int .i64 v0, .int .i64 0, .int .i64 v2, .int .i64 v3, .int .i64 0, .int .i64 0, .bool (v6 == 1)] 32)).drew.frozen? ⟨w1.heap.size, 1, none⟩ = false := var_frozen _ _ _ _
  have s_f2 : (w1.alloc (.cells #[.int .i64 v0, .int .i64 0, .int .i64 v2, .int .i64 v3, .int .i64 0, .int .i64 0, .bool (v6 == 1)] 32)).drew.frozen? ⟨w1.heap.size, 2, none⟩ = false := var_frozen _ _ _ _
  have s_f3 : (w1.alloc (.cells #[.int .i64 v0, .int .i64 0, .int .i64 v2, .int .i64 v3, .int .i64 0, .int .i64 0, .bool (v6 == 1)] 32)).drew.frozen? ⟨w1.heap.size, 3, none⟩ = false := var_frozen _ _ _ _
  have s_f4 : (w1.alloc (.cells #[.int .i64 v0, .int .i64 0, .int .i64 v2, .int .i64 v3, .int .i64 0, .int .i64 0, .bool (v6 == 1)] 32)).drew.frozen? ⟨w1.heap.size, 4, none⟩ = false := var_frozen _ _ _ _
  have s_f5 : (w1.alloc (.cells #[.int .i64 v0, .int .i64 0, .int .i64 v2, .int .i64 v3, .int .i64 0, .int .i64 0, .bool (v6 == 1)] 32)).drew.frozen? ⟨w1.heap.size, 5, none⟩ = false := var_frozen _ _ _ _
  have s_f6 : (w1.alloc (.cells #[.int .i64 v0, .int .i64 0, .int .i64 v2, .int .i64 v3, .int .i64 0, .int .i64 0, .bool (v6 == 1)] 32)).drew.frozen? ⟨w1.heap.size, 6, none⟩ = false := var_frozen _ _ _ _
  generalize (w1.alloc (.cells #[.int .i64 v0, .int .i64 0, .int .i64 v2, .int .i64 v3, .int .i64 0, .int .i64 0, .bool (v6 == 1)] 32)).drew = w2 at *
  have hz2 : w1.heap.size ≤ w2.heap.size := he2.size
  have b2 : Below W.heap.size W w2 := b1.trans (he2.below b1.size (by omega))
  replace hr := (hr.below (he2.below (B := W.heap.size) (by omega) (by omega)) (Nat.le_refl _))
  replace res_f0 := (he2.frozen res_0 (by simp only; omega)).trans res_f0
  replace res_f1 := (he2.frozen res_1 (by simp only; omega)).trans res_f1
  replace res_f2 := (he2.frozen res_2 (by simp only; omega)).trans res_f2
  replace res_f3 := (he2.frozen res_3 (by simp only; omega)).trans res_f3
  replace res_f4 := (he2.frozen res_4 (by simp only; omega)).trans res_f4
  replace res_f5 := (he2.frozen res_5 (by simp only; omega)).trans res_f5
  replace res_f6 := (he2.frozen res_6 (by simp only; omega)).trans res_f6
  replace res_0 := he2.cell res_0 (by simp only; omega)
  replace res_1 := he2.cell res_1 (by simp only; omega)
  replace res_2 := he2.cell res_2 (by simp only; omega)
  replace res_3 := he2.cell res_3 (by simp only; omega)
  replace res_4 := he2.cell res_4 (by simp only; omega)
  replace res_5 := he2.cell res_5 (by simp only; omega)
  replace res_6 := he2.cell res_6 (by simp only; omega)
  replace res_l := Nat.lt_of_lt_of_le res_l hz2
  rw [hs1] at s_0 s_f0
  rw [hs1] at s_1 s_f1
  rw [hs1] at s_2 s_f2
  rw [hs1] at s_3 s_f3
  rw [hs1] at s_4 s_f4
  rw [hs1] at s_5 s_f5
  rw [hs1] at s_6 s_f6
  have s_l : W.heap.size + 1 < w2.heap.size := (by omega)
  refine (impl_GetNum _ 22 c l 2 3 _hnc (by omega) w2 (hr.more (by omega))).mono ?_
  rintro e w3 ⟨rfl, hb⟩
  have he3 : Eff 0 0 w2 w3 := Eff.of hb
  have hz3 : w2.heap.size ≤ w3.heap.size := he3.size
  have b3 : Below W.heap.size W w3 := b2.trans (he3.below b2.size (by omega))
  replace hr := (hr.below (he3.below (B := W.heap.size) (by omega) (by omega)) (Nat.le_refl _))
  replace res_f0 := (he3.frozen res_0 (by simp only; omega)).trans res_f0
  replace res_f1 := (he3.frozen res_1 (by simp only; omega)).trans res_f1
  replace res_f2 := (he3.frozen res_2 (by simp only; omega)).trans res_f2
  replace res_f3 := (he3.frozen res_3 (by simp only; omega)).trans res_f3
  replace res_f4 := (he3.frozen res_4 (by simp only; omega)).trans res_f4
  replace res_f5 := (he3.frozen res_5 (by simp only; omega)).trans res_f5
  replace res_f6 := (he3.frozen res_6 (by simp only; omega)).trans res_f6
  replace s_f0 := (he3.frozen s_0 (by simp only; omega)).trans s_f0
  replace s_f1 := (he3.frozen s_1 (by simp only; omega)).trans s_f1
  replace s_f2 := (he3.frozen s_2 (by simp only; omega)).trans s_f2
  replace s_f3 := (he3.frozen s_3 (by simp only; omega)).trans s_f3
  replace s_f4 := (he3.frozen s_4 (by simp only; omega)).trans s_f4
  replace s_f5 := (he3.frozen s_5 (by simp only; omega)).trans s_f5
  replace s_f6 := (he3.frozen s_6 (by simp only; omega)).trans s_f6
  replace res_0 := he3.cell res_0 (by simp only; omega)
  replace res_1 := he3.cell res_1 (by simp only; omega)
  replace res_2 := he3.cell res_2 (by simp only; omega)
  replace res_3 := he3.cell res_3 (by simp only; omega)
  replace res_4 := he3.cell res_4 (by simp only; omega)
  replace res_5 := he3.cell res_5 (by simp only; omega)
  replace res_6 := he3.cell res_6 (by simp only; omega)
  replace s_0 := he3.cell s_0 (by simp only; omega)
  replace s_1 := he3.cell s_1 (by simp only; omega)
  replace s_2 := he3.cell s_2 (by simp only; omega)
  replace s_3 := he3.cell s_3 (by simp only; omega)
  replace s_4 := he3.cell s_4 (by simp only; omega)
  replace s_5 := he3.cell s_5 (by simp only; omega)
  replace s_6 := he3.cell s_6 (by simp only; omega)
  replace res_l := Nat.lt_of_lt_of_le res_l hz3
  replace s_l := Nat.lt_of_lt_of_le s_l hz3
  clear hb
  rw [H1.out]
  go_wp2_with fail
  have he4 : Eff (W.heap.size + 1) (W.heap.size + 1 + 1) w3 (w3.setCell ⟨W.heap.size + 1, 1, none⟩ (.int .i64 v1)) := eff_set _ _ _ _
  replace res_f0 := (he4.frozen res_0 (by simp only; omega)).trans res_f0
  replace res_f1 := (he4.frozen res_1 (by simp only; omega)).trans res_f1
  replace res_f2 := (he4.frozen res_2 (by simp only; omega)).trans res_f2
  replace res_f3 := (he4.frozen res_3 (by simp only; omega)).trans res_f3
  replace res_f4 := (he4.frozen res_4 (by simp only; omega)).trans res_f4
  replace res_f5 := (he4.frozen res_5 (by simp only; omega)).trans res_f5
  replace res_f6 := (he4.frozen res_6 (by simp only; omega)).trans res_f6
  replace s_f0 := set_frozen (p := ⟨W.heap.size + 1, 1, none⟩) s_f0 (.int .i64 v1)
  replace s_f1 := set_frozen (p := ⟨W.heap.size + 1, 1, none⟩) s_f1 (.int .i64 v1)
  replace s_f2 := set_frozen (p := ⟨W.heap.size + 1, 1, none⟩) s_f2 (.int .i64 v1)
  replace s_f3 := set_frozen (p := ⟨W.heap.size + 1, 1, none⟩) s_f3 (.int .i64 v1)
  replace s_f4 := set_frozen (p := ⟨W.heap.size + 1, 1, none⟩) s_f4 (.int .i64 v1)
  replace s_f5 := set_frozen (p := ⟨W.heap.size + 1, 1, none⟩) s_f5 (.int .i64 v1)
  replace s_f6 := set_frozen (p := ⟨W.heap.size + 1, 1, none⟩) s_f6 (.int .i64 v1)
  replace res_0 := he4.cell res_0 (by simp only; omega)
  replace res_1 := he4.cell res_1 (by simp only; omega)
  replace res_2 := he4.cell res_2 (by simp only; omega)
  replace res_3 := he4.cell res_3 (by simp only; omega)
  replace res_4 := he4.cell res_4 (by simp only; omega)
  replace res_5 := he4.cell res_5 (by simp only; omega)
  replace res_6 := he4.cell res_6 (by simp only; omega)
  replace s_0 := set_other (b' := W.heap.size + 1) (o' := 1) s_0 (.int .i64 v1) (.inr (by omega))
  replace s_1 := set_same s_1 (.int .i64 v1)
  replace s_2 := set_other (b' := W.heap.size + 1) (o' := 1) s_2 (.int .i64 v1) (.inr (by omega))
  replace s_3 := set_other (b' := W.heap.size + 1) (o' := 1) s_3 (.int .i64 v1) (.inr (by omega))
  replace s_4 := set_other (b' := W.heap.size + 1) (o' := 1) s_4 (.int .i64 v1) (.inr (by omega))
  replace s_5 := set_other (b' := W.heap.size + 1) (o' := 1) s_5 (.int .i64 v1) (.inr (by omega))
  replace s_6 := set_other (b' := W.heap.size + 1) (o' := 1) s_6 (.int .i64 v1) (.inr (by omega))
  have hz4 : w3.heap.size ≤ (w3.setCell ⟨W.heap.size + 1, 1, none⟩ (.int .i64 v1)).heap.size := he4.size
  generalize (w3.setCell ⟨W.heap.size + 1, 1, none⟩ (.int .i64 v1)) = w4 at *
  have b4 : Below W.heap.size W w4 := b3.trans (he4.below b3.size (by omega))
  replace hr := (hr.below (he4.below (B := W.heap.size) (by omega) (by omega)) (Nat.le_refl _))
  replace res_l := Nat.lt_of_lt_of_le res_l hz4
  replace s_l := Nat.lt_of_lt_of_le s_l hz4
  refine (impl_GetNum _ 22 c l 7 7 _hnc (by omega) w4 (hr.more (by omega))).mono ?_
  rintro e w5 ⟨rfl, hb⟩
  have he5 : Eff 0 0 w4 w5 := Eff.of hb
  have hz5 : w4.heap.size ≤ w5.heap.size := he5.size
  have b5 : Below W.heap.size W w5 := b4.trans (he5.below b4.size (by omega))
  replace hr := (hr.below (he5.below (B := W.heap.size) (by omega) (by omega)) (Nat.le_refl _))
  replace res_f0 := (he5.frozen res_0 (by simp only; omega)).trans res_f0
  replace res_f1 := (he5.frozen res_1 (by simp only; omega)).trans res_f1
  replace res_f2 := (he5.frozen res_2 (by simp only; omega)).trans res_f2
  replace res_f3 := (he5.frozen res_3 (by simp only; omega)).trans res_f3
  replace res_f4 := (he5.frozen res_4 (by simp only; omega)).trans res_f4
  replace res_f5 := (he5.frozen res_5 (by simp only; omega)).trans res_f5
  replace res_f6 := (he5.frozen res_6 (by simp only; omega)).trans res_f6
  replace s_f0 := (he5.frozen s_0 (by simp only; omega)).trans s_f0
  replace s_f1 := (he5.frozen s_1 (by simp only; omega)).trans s_f1
  replace s_f2 := (he5.frozen s_2 (by simp only; omega)).trans s_f2
  replace s_f3 := (he5.frozen s_3 (by simp only; omega)).trans s_f3
  replace s_f4 := (he5.frozen s_4 (by simp only; omega)).trans s_f4
  replace s_f5 := (he5.frozen s_5 (by simp only; omega)).trans s_f5
  replace s_f6 := (he5.frozen s_6 (by simp only; omega)).trans s_f6
  replace res_0 := he5.cell res_0 (by simp only; omega)
  replace res_1 := he5.cell res_1 (by simp only; omega)
  replace res_2 := he5.cell res_2 (by simp only; omega)
  replace res_3 := he5.cell res_3 (by simp only; omega)
  replace res_4 := he5.cell res_4 (by simp only; omega)
  replace res_5 := he5.cell res_5 (by simp only; omega)
  replace res_6 := he5.cell res_6 (by simp only; omega)
  replace s_0 := he5.cell s_0 (by simp only; omega)
  replace s_1 := he5.cell s_1 (by simp only; omega)
  replace s_2 := he5.cell s_2 (by simp only; omega)
  replace s_3 := he5.cell s_3 (by simp only; omega)
  replace s_4 := he5.cell s_4 (by simp only; omega)
  replace s_5 := he5.cell s_5 (by simp only; omega)
  replace s_6 := he5.cell s_6 (by simp only; omega)
  replace res_l := Nat.lt_of_lt_of_le res_l hz5
  replace s_l := Nat.lt_of_lt_of_le s_l hz5
  clear hb
  rw [H4.out]
  go_wp2_with fail
  have he6 : Eff (W.heap.size + 1) (W.heap.size + 1 + 1) w5 (w5.setCell ⟨W.heap.size + 1, 4, none⟩ (.int .i64 v4)) := eff_set _ _ _ _
  replace res_f0 := (he6.frozen res_0 (by simp only; omega)).trans res_f0
  replace res_f1 := (he6.frozen res_1 (by simp only; omega)).trans res_f1
  replace res_f2 := (he6.frozen res_2 (by simp only; omega)).trans res_f2
  replace res_f3 := (he6.frozen res_3 (by simp only; omega)).trans res_f3
  replace res_f4 := (he6.frozen res_4 (by simp only; omega)).trans res_f4
  replace res_f5 := (he6.frozen res_5 (by simp only; omega)).trans res_f5
  replace res_f6 := (he6.frozen res_6 (by simp only; omega)).trans res_f6
  replace s_f0 := set_frozen (p := ⟨W.heap.size + 1, 4, none⟩) s_f0 (.int .i64 v4)
  replace s_f1 := set_frozen (p := ⟨W.heap.size + 1, 4, none⟩) s_f1 (.int .i64 v4)
  replace s_f2 := set_frozen (p := ⟨W.heap.size + 1, 4, none⟩) s_f2 (.int .i64 v4)
  replace s_f3 := set_frozen (p := ⟨W.heap.size + 1, 4, none⟩) s_f3 (.int .i64 v4)
  replace s_f4 := set_frozen (p := ⟨W.heap.size + 1, 4, none⟩) s_f4 (.int .i64 v4)
  replace s_f5 := set_frozen (p := ⟨W.heap.size + 1, 4, none⟩) s_f5 (.int .i64 v4)
  replace s_f6 := set_frozen (p := ⟨W.heap.size + 1, 4, none⟩) s_f6 (.int .i64 v4)
  replace res_0 := he6.cell res_0 (by simp only; omega)
  replace res_1 := he6.cell res_1 (by simp only; omega)
  replace res_2 := he6.cell res_2 (by simp only; omega)
  replace res_3 := he6.cell res_3 (by simp only; omega)
  replace res_4 := he6.cell res_4 (by simp only; omega)
  replace res_5 := he6.cell res_5 (by simp only; omega)
  replace res_6 := he6.cell res_6 (by simp only; omega)
  replace s_0 := set_other (b' := W.heap.size + 1) (o' := 4) s_0 (.int .i64 v4) (.inr (by omega))
  replace s_1 := set_other (b' := W.heap.size + 1) (o' := 4) s_1 (.int .i64 v4) (.inr (by omega))
  replace s_2 := set_other (b' := W.heap.size + 1) (o' := 4) s_2 (.int .i64 v4) (.inr (by omega))
  replace s_3 := set_other (b' := W.heap.size + 1) (o' := 4) s_3 (.int .i64 v4) (.inr (by omega))
  replace s_4 := set_same s_4 (.int .i64 v4)
  replace s_5 := set_other (b' := W.heap.size + 1) (o' := 4) s_5 (.int .i64 v4) (.inr (by omega))
  replace s_6 := set_other (b' := W.heap.size + 1) (o' := 4) s_6 (.int .i64 v4) (.inr (by omega))
  have hz6 : w5.heap.size ≤ (w5.setCell ⟨W.heap.size + 1, 4, none⟩ (.int .i64 v4)).heap.size := he6.size
  generalize (w5.setCell ⟨W.heap.size + 1, 4, none⟩ (.int .i64 v4)) = w6 at *
  have b6 : Below W.heap.size W w6 := b5.trans (he6.below b5.size (by omega))
  replace hr := (hr.below (he6.below (B := W.heap.size) (by omega) (by omega)) (Nat.le_refl _))
  replace res_l := Nat.lt_of_lt_of_le res_l hz6
  replace s_l := Nat.lt_of_lt_of_le s_l hz6
  refine (impl_GetNum _ 22 c l 14 7 _hnc (by omega) w6 (hr.more (by omega))).mono ?_
  rintro e w7 ⟨rfl, hb⟩
  have he7 : Eff 0 0 w6 w7 := Eff.of hb
  have hz7 : w6.heap.size ≤ w7.heap.size := he7.size
  have b7 : Below W.heap.size W w7 := b6.trans (he7.below b6.size (by omega))
  replace hr := (hr.below (he7.below (B := W.heap.size) (by omega) (by omega)) (Nat.le_refl _))
  replace res_f0 := (he7.frozen res_0 (by simp only; omega)).trans res_f0
  replace res_f1 := (he7.frozen res_1 (by simp only; omega)).trans res_f1
  replace res_f2 := (he7.frozen res_2 (by simp only; omega)).trans res_f2
  replace res_f3 := (he7.frozen res_3 (by simp only; omega)).trans res_f3
  replace res_f4 := (he7.frozen res_4 (by simp only; omega)).trans res_f4
  replace res_f5 := (he7.frozen res_5 (by simp only; omega)).trans res_f5
  replace res_f6 := (he7.frozen res_6 (by simp only; omega)).trans res_f6
  replace s_f0 := (he7.frozen s_0 (by simp only; omega)).trans s_f0
  replace s_f1 := (he7.frozen s_1 (by simp only; omega)).trans s_f1
  replace s_f2 := (he7.frozen s_2 (by simp only; omega)).trans s_f2
  replace s_f3 := (he7.frozen s_3 (by simp only; omega)).trans s_f3
  replace s_f4 := (he7.frozen s_4 (by simp only; omega)).trans s_f4
  replace s_f5 := (he7.frozen s_5 (by simp only; omega)).trans s_f5
  replace s_f6 := (he7.frozen s_6 (by simp only; omega)).trans s_f6
  replace res_0 := he7.cell res_0 (by simp only; omega)
  replace res_1 := he7.cell res_1 (by simp only; omega)
  replace res_2 := he7.cell res_2 (by simp only; omega)
  replace res_3 := he7.cell res_3 (by simp only; omega)
  replace res_4 := he7.cell res_4 (by simp only; omega)
  replace res_5 := he7.cell res_5 (by simp only; omega)
  replace res_6 := he7.cell res_6 (by simp only; omega)
  replace s_0 := he7.cell s_0 (by simp only; omega)
  replace s_1 := he7.cell s_1 (by simp only; omega)
  replace s_2 := he7.cell s_2 (by simp only; omega)
  replace s_3 := he7.cell s_3 (by simp only; omega)
  replace s_4 := he7.cell s_4 (by simp only; omega)
  replace s_5 := he7.cell s_5 (by simp only; omega)
  replace s_6 := he7.cell s_6 (by simp only; omega)
  replace res_l := Nat.lt_of_lt_of_le res_l hz7
  replace s_l := Nat.lt_of_lt_of_le s_l hz7
  clear hb
  rw [H5.out]
  go_wp2_with fail
  have he8 : Eff (W.heap.size + 1) (W.heap.size + 1 + 1) w7 (w7.setCell ⟨W.heap.size + 1, 5, none⟩ (.int .i64 v5)) := eff_set _ _ _ _
  replace res_f0 := (he8.frozen res_0 (by simp only; omega)).trans res_f0
  replace res_f1 := (he8.frozen res_1 (by simp only; omega)).trans res_f1
  replace res_f2 := (he8.frozen res_2 (by simp only; omega)).trans res_f2
  replace res_f3 := (he8.frozen res_3 (by simp only; omega)).trans res_f3
  replace res_f4 := (he8.frozen res_4 (by simp only; omega)).trans res_f4
  replace res_f5 := (he8.frozen res_5 (by simp only; omega)).trans res_f5
  replace res_f6 := (he8.frozen res_6 (by simp only; omega)).trans res_f6
  replace s_f0 := set_frozen (p := ⟨W.heap.size + 1, 5, none⟩) s_f0 (.int .i64 v5)
  replace s_f1 := set_frozen (p := ⟨W.heap.size + 1, 5, none⟩) s_f1 (.int .i64 v5)
  replace s_f2 := set_frozen (p := ⟨W.heap.size + 1, 5, none⟩) s_f2 (.int .i64 v5)
  replace s_f3 := set_frozen (p := ⟨W.heap.size + 1, 5, none⟩) s_f3 (.int .i64 v5)
  replace s_f4 := set_frozen (p := ⟨W.heap.size + 1, 5, none⟩) s_f4 (.int .i64 v5)
  replace s_f5 := set_frozen (p := ⟨W.heap.size + 1, 5, none⟩) s_f5 (.int .i64 v5)
  replace s_f6 := set_frozen (p := ⟨W.heap.size + 1, 5, none⟩) s_f6 (.int .i64 v5)
  replace res_0 := he8.cell res_0 (by simp only; omega)
  replace res_1 := he8.cell res_1 (by simp only; omega)
  replace res_2 := he8.cell res_2 (by simp only; omega)
  replace res_3 := he8.cell res_3 (by simp only; omega)
  replace res_4 := he8.cell res_4 (by simp only; omega)
  replace res_5 := he8.cell res_5 (by simp only; omega)
  replace res_6 := he8.cell res_6 (by simp only; omega)
  replace s_0 := set_other (b' := W.heap.size + 1) (o' := 5) s_0 (.int .i64 v5) (.inr (by omega))
  replace s_1 := set_other (b' := W.heap.size + 1) (o' := 5) s_1 (.int .i64 v5) (.inr (by omega))
  replace s_2 := set_other (b' := W.heap.size + 1) (o' := 5) s_2 (.int .i64 v5) (.inr (by omega))
  replace s_3 := set_other (b' := W.heap.size + 1) (o' := 5) s_3 (.int .i64 v5) (.inr (by omega))
  replace s_4 := set_other (b' := W.heap.size + 1) (o' := 5) s_4 (.int .i64 v5) (.inr (by omega))
  replace s_5 := set_same s_5 (.int .i64 v5)
  replace s_6 := set_other (b' := W.heap.size + 1) (o' := 5) s_6 (.int .i64 v5) (.inr (by omega))
  have hz8 : w7.heap.size ≤ (w7.setCell ⟨W.heap.size + 1, 5, none⟩ (.int .i64 v5)).heap.size := he8.size
  generalize (w7.setCell ⟨W.heap.size + 1, 5, none⟩ (.int .i64 v5)) = w8 at *
  have b8 : Below W.heap.size W w8 := b7.trans (he8.below b7.size (by omega))
  replace hr := (hr.below (he8.below (B := W.heap.size) (by omega) (by omega)) (Nat.le_refl _))
  replace res_l := Nat.lt_of_lt_of_le res_l hz8
  replace s_l := Nat.lt_of_lt_of_le s_l hz8
  refine (impl_EventBody v0 v1 v2 v3 v4 v5 (v6 == 1) w8).mono ?_
  rintro e w9 hpost
  rw [HO.out] at hpost
  obtain ⟨Ar, cr, rfl, r, hb⟩ := hpost.yes (N := 22)
  clear hpost
  have he9 : Eff 0 0 w8 w9 := Eff.of hb
  have hz9 : w8.heap.size ≤ w9.heap.size := he9.size
  have b9 : Below W.heap.size W w9 := b8.trans (he9.below b8.size (by omega))
  replace hr := (hr.below (he9.below (B := W.heap.size) (by omega) (by omega)) (Nat.le_refl _))
  replace res_f0 := (he9.frozen res_0 (by simp only; omega)).trans res_f0
  replace res_f1 := (he9.frozen res_1 (by simp only; omega)).trans res_f1
  replace res_f2 := (he9.frozen res_2 (by simp only; omega)).trans res_f2
  replace res_f3 := (he9.frozen res_3 (by simp only; omega)).trans res_f3
  replace res_f4 := (he9.frozen res_4 (by simp only; omega)).trans res_f4
  replace res_f5 := (he9.frozen res_5 (by simp only; omega)).trans res_f5
  replace res_f6 := (he9.frozen res_6 (by simp only; omega)).trans res_f6
  replace s_f0 := (he9.frozen s_0 (by simp only; omega)).trans s_f0
  replace s_f1 := (he9.frozen s_1 (by simp only; omega)).trans s_f1
  replace s_f2 := (he9.frozen s_2 (by simp only; omega)).trans s_f2
  replace s_f3 := (he9.frozen s_3 (by simp only; omega)).trans s_f3
  replace s_f4 := (he9.frozen s_4 (by simp only; omega)).trans s_f4
  replace s_f5 := (he9.frozen s_5 (by simp only; omega)).trans s_f5
  replace s_f6 := (he9.frozen s_6 (by simp only; omega)).trans s_f6
  replace res_0 := he9.cell res_0 (by simp only; omega)
  replace res_1 := he9.cell res_1 (by simp only; omega)
  replace res_2 := he9.cell res_2 (by simp only; omega)
  replace res_3 := he9.cell res_3 (by simp only; omega)
  replace res_4 := he9.cell res_4 (by simp only; omega)
  replace res_5 := he9.cell res_5 (by simp only; omega)
  replace res_6 := he9.cell res_6 (by simp only; omega)
  replace s_0 := he9.cell s_0 (by simp only; omega)
  replace s_1 := he9.cell s_1 (by simp only; omega)
  replace s_2 := he9.cell s_2 (by simp only; omega)
  replace s_3 := he9.cell s_3 (by simp only; omega)
  replace s_4 := he9.cell s_4 (by simp only; omega)
  replace s_5 := he9.cell s_5 (by simp only; omega)
  replace s_6 := he9.cell s_6 (by simp only; omega)
  replace res_l := Nat.lt_of_lt_of_le res_l hz9
  replace s_l := Nat.lt_of_lt_of_le s_l hz9
  clear hb
  have hc1 := (OwnB.rd r (B := w9.heap.size) (by omega)).str 22 5 cr Tryd.underlying22 Tryd.underlying5 9 Tryd.underlying9
  have hc2 := hr.str 22 5 c Tryd.underlying22 Tryd.underlying5 9 Tryd.underlying9
  rw [HQ.out] at hc1
  obtain ⟨s2, hs2x⟩ : ∃ s, bstr l = s := ⟨_, rfl⟩
  rw [hs2x] at hc1 hc2
  clear hs2x
  go_wp2
  refine bodyPost_ret (v := .tuple #[.agg #[.int .i64 v0, .int .i64 v1, .int .i64 v2, .int .i64 v3, .int .i64 v4, .int .i64 v5, .bool (v6 == 1)], .bool true]) (by simp [results, Tryd.results23, go_sem, *]) rfl ?_
  refine EvR.yes HG.out H0.out H1.out H2.out H3.out H4.out H5.out H6.out (below_set7 b9)
theorem evBytes_len (a b c d e f : Nat) (y : Bool) : (evBytes a b c d e f y).length = 22 := by simp [evBytes, digs_len]
theorem evGood_len {l : List UInt8} (h : l.length ≠ 22) : evGood l = false := by
  have : eqL (evBytes (getNum l 1 1).1.toNat (getNum l 2 3).1.toNat (getNum l 5 1).1.toNat (getNum l 6 1).1.toNat (getNum l 7 7).1.toNat (getNum l 14 7).1.toNat ((getNum l 21 1).1 == 1)) l = false := eqL_false (fun e => h (by rw [← e, evBytes_len]))
  simp [evGood, this]
theorem getNum_byte {l : List UInt8} {k : Nat} {v : Int} {t : Bool} (hk : k < l.length) (h : getNum l k 1 = (v, t)) : (l[k].toNat : Int) = v := by
  have h2 : getNum l k 1 = (((beNat ((l.drop k).take 1) : Nat) : Int), true) := getNum_ok (s := 1) (by omega) (by omega) (by omega)
  rw [h2, show (1 : Nat) = 0 + 1 from rfl, drop_take_snoc l k 0 (by omega)] at h
  simp [beNat] at h
  exact h.1
set_option maxHeartbeats 4000000 in
set_option maxRecDepth 100000 in
theorem impl_BodyEvent (A : Option Addr) (n c : Nat) (l : List UInt8) (hnc : n ≤ c) (hc : c ≤ maxLen) (W : World) (hr : Rd W W.heap.size 1 A n (Lib.byteCells l)) : Calls Tryd.prog 23 #[.slice A n c] W (EvR l W) := by
  have hlen := len_of_rd hr
  by_cases hn : n = 22
  · subst hn
    obtain ⟨b, off, rfl, hbB, hcell⟩ := hr.form (by omega)
    have gg : ∀ k : Nat, (hk : k < l.length) → W.cell? ⟨b, off + k, none⟩ = some (.int .u8 (l[k].toNat : Int)) := fun k hk => hcell k _ (byteCells_get l k hk)
    rcases h0 : getNum l 1 1 with ⟨v0, t0⟩
    rcases h1 : getNum l 2 3 with ⟨v1, t1⟩
    rcases h2 : getNum l 5 1 with ⟨v2, t2⟩
    rcases h3 : getNum l 6 1 with ⟨v3, t3⟩
    rcases h4 : getNum l 7 7 with ⟨v4, t4⟩
    rcases h5 : getNum l 14 7 with ⟨v5, t5⟩
    rcases h6 : getNum l 21 1 with ⟨v6, t6⟩
    have e0 := getNum_byte (k := 1) (by omega) h0
    have f0 := gg 1 (by omega)
    have z0 := byte_lt (l[1]'(by omega))
    rw [e0] at f0 z0
    have e2 := getNum_byte (k := 5) (by omega) h2
    have f2 := gg 5 (by omega)
    have z2 := byte_lt (l[5]'(by omega))
    rw [e2] at f2 z2
    have e3 := getNum_byte (k := 6) (by omega) h3
    have f3 := gg 6 (by omega)
    have z3 := byte_lt (l[6]'(by omega))
    rw [e3] at f3 z3
    have e6 := getNum_byte (k := 21) (by omega) h6
    have f6 := gg 21 (by omega)
    have z6 := byte_lt (l[21]'(by omega))
    rw [e6] at f6 z6
    rcases ho : evOk v0 v1 v2 v3 v4 v5 (v6 == 1) with _ | _
    · exact impl_BodyEvent_kind c l v0 t0 v1 t1 v2 t2 v3 t3 v4 t4 v5 t5 v6 t6 (Lib.hid h0) (Lib.hid h1) (Lib.hid h2) (Lib.hid h3) (Lib.hid h4) (Lib.hid h5) (Lib.hid h6) b off hnc hc z0.1 (by omega) z2.1 (by omega) z3.1 (by omega) z6.1 (by omega) W f0 f2 f3 f6 (Lib.hid ho) (Lib.hid (by simp [evGood, h0, h1, h2, h3, h4, h5, h6, ho])) hr
    · by_cases hq : evBytes v0.toNat v1.toNat v2.toNat v3.toNat v4.toNat v5.toNat (v6 == 1) = l
      · exact impl_BodyEvent_same c l v0 t0 v1 t1 v2 t2 v3 t3 v4 t4 v5 t5 v6 t6 (Lib.hid h0) (Lib.hid h1) (Lib.hid h2) (Lib.hid h3) (Lib.hid h4) (Lib.hid h5) (Lib.hid h6) b off hnc hc z0.1 (by omega) z2.1 (by omega) z3.1 (by omega) z6.1 (by omega) W f0 f2 f3 f6 (Lib.hid ho) (Lib.hid hq) (Lib.hid (by simp [evGood, h0, h1, h2, h3, h4, h5, h6, ho, hq, eqL])) hr
      · exact impl_BodyEvent_other c l v0 t0 v1 t1 v2 t2 v3 t3 v4 t4 v5 t5 v6 t6 (Lib.hid h0) (Lib.hid h1) (Lib.hid h2) (Lib.hid h3) (Lib.hid h4) (Lib.hid h5) (Lib.hid h6) b off hnc hc z0.1 (by omega) z2.1 (by omega) z3.1 (by omega) z6.1 (by omega) W f0 f2 f3 f6 (Lib.hid ho) (Lib.hid hq) (Lib.hid (by simp [evGood, h0, h1, h2, h3, h4, h5, h6, ho, hq, eqL])) hr
  · have HG := Lib.hid (evGood_len (l := l) (by omega))
    have hnb : ((n : Int) != 22) = true := by simp; omega
    unfold maxLen at hc
    clear hn hlen
    go_enter Tryd.func23, Tryd.ntmps23
    go_wp2
    refine bodyPost_ret (v := .tuple #[.agg #[.int .i64 0, .int .i64 0, .int .i64 0, .int .i64 0, .int .i64 0, .int .i64 0, .bool false], .bool false]) (by simp [results, Tryd.results23, go_sem, *]) rfl ?_
    refine EvR.no HG.out ?_
    repeat' (first | exact Below.refl _ _ | (refine Below.alloc ?_ ?_ _) | (refine Below.drew ?_) | (refine Below.setCell ?_ ?_ _) | (refine Below.trans ?_ (Below.mono (by assumption) ?_)) | omega | (simp; omega) | (simp; done) | exact Below.size (by assumption) | (refine Nat.le_trans ?_ (Below.size (by assumption))))
end Go.Proofs.YtnjdmmdbminmoaaDoor
