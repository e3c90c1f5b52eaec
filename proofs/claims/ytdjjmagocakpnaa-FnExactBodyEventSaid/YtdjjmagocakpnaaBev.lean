/- BodyEvent: program and reference. -/
import Derived.Test.YtdjjmagocakpnaaEvB
import Derived.Test.YtdjjmagocakpnaaStr
import Derived.Test.YtdjjmagocakpnaaSecR
import Derived.Outline
namespace Go.Proofs.Ytdjjmagocakpnaa
open Go.RowKit
theorem below_set7 {W w : World} {u0 u1 u2 u3 u4 u5 u6 : Value} (h : Below W.heap.size W w) :
    Below W.heap.size W (((((((w.setCell ⟨W.heap.size, 0, none⟩ u0).setCell ⟨W.heap.size, 1, none⟩ u1).setCell ⟨W.heap.size, 2, none⟩ u2).setCell ⟨W.heap.size, 3, none⟩ u3).setCell ⟨W.heap.size, 4, none⟩ u4).setCell ⟨W.heap.size, 5, none⟩ u5).setCell ⟨W.heap.size, 6, none⟩ u6) :=
  ((((((h.setCell (Nat.le_refl _) _).setCell (Nat.le_refl _) _).setCell (Nat.le_refl _) _).setCell (Nat.le_refl _) _).setCell (Nat.le_refl _) _).setCell (Nat.le_refl _) _).setCell (Nat.le_refl _) _
/-- Do bytes read as an event that is written so? -/
def evGood (l : List UInt8) : Bool := evOk (getNum l 1 1).1 (getNum l 2 3).1 (getNum l 5 1).1 (getNum l 6 1).1 (getNum l 7 7).1 (getNum l 14 7).1 ((getNum l 21 1).1 == 1) && eqL (evBytes (getNum l 1 1).1.toNat (getNum l 2 3).1.toNat (getNum l 5 1).1.toNat (getNum l 6 1).1.toNat (getNum l 7 7).1.toNat (getNum l 14 7).1.toNat ((getNum l 21 1).1 == 1)) l
def EvR (l : List UInt8) (w : World) (e : Ending) (w' : World) : Prop :=
  e = .returned (.tuple #[.agg #[.int .i64 (if evGood l then (getNum l 1 1).1 else 0), .int .i64 (if evGood l then (getNum l 2 3).1 else 0), .int .i64 (if evGood l then (getNum l 5 1).1 else 0), .int .i64 (if evGood l then (getNum l 6 1).1 else 0), .int .i64 (if evGood l then (getNum l 7 7).1 else 0), .int .i64 (if evGood l then (getNum l 14 7).1 else 0), .bool (if evGood l then (getNum l 21 1).1 == 1 else false)], .bool (evGood l)]) ∧ Below w.heap.size w w'
theorem EvR.no {l : List UInt8} {w w' : World} (h : evGood l = false) (hb : Below w.heap.size w w') : EvR l w (.returned (.tuple #[.agg #[.int .i64 0, .int .i64 0, .int .i64 0, .int .i64 0, .int .i64 0, .int .i64 0, .bool false], .bool false])) w' := by
  unfold EvR
  rw [h]
  exact ⟨rfl, hb⟩
theorem EvR.yes {l : List UInt8} {w w' : World} {v0 : Int} {t0 : Bool} {v1 : Int} {t1 : Bool} {v2 : Int} {t2 : Bool} {v3 : Int} {t3 : Bool} {v4 : Int} {t4 : Bool} {v5 : Int} {t5 : Bool} {v6 : Int} {t6 : Bool} (h : evGood l = true) (H0 : getNum l 1 1 = (v0, t0)) (H1 : getNum l 2 3 = (v1, t1)) (H2 : getNum l 5 1 = (v2, t2)) (H3 : getNum l 6 1 = (v3, t3)) (H4 : getNum l 7 7 = (v4, t4)) (H5 : getNum l 14 7 = (v5, t5)) (H6 : getNum l 21 1 = (v6, t6)) (hb : Below w.heap.size w w') : EvR l w (.returned (.tuple #[.agg #[.int .i64 v0, .int .i64 v1, .int .i64 v2, .int .i64 v3, .int .i64 v4, .int .i64 v5, .bool (v6 == 1)], .bool true])) w' := by
  unfold EvR
  rw [h, H0, H1, H2, H3, H4, H5, H6]
  exact ⟨rfl, hb⟩
set_option maxHeartbeats 4000000 in
set_option maxRecDepth 100000 in
theorem spec_BodyEvent_kind (A : Option Addr) (n c : Nat) (l : List UInt8) (v0 : Int) (t0 : Bool) (v1 : Int) (t1 : Bool) (v2 : Int) (t2 : Bool) (v3 : Int) (t3 : Bool) (v4 : Int) (t4 : Bool) (v5 : Int) (t5 : Bool) (v6 : Int) (t6 : Bool) (H0 : Hid (getNum l 1 1 = (v0, t0))) (H1 : Hid (getNum l 2 3 = (v1, t1))) (H2 : Hid (getNum l 5 1 = (v2, t2))) (H3 : Hid (getNum l 6 1 = (v3, t3))) (H4 : Hid (getNum l 7 7 = (v4, t4))) (H5 : Hid (getNum l 14 7 = (v5, t5))) (H6 : Hid (getNum l 21 1 = (v6, t6))) (hn : n ≤ 1099511627776) (HO : Hid (evOk v0 v1 v2 v3 v4 v5 (v6 == 1) = false)) (HG : Hid (evGood l = false)) (W : World) (hr : Rd W W.heap.size 1 A n (Lib.byteCells l)) : Calls Try.prog 50 #[.slice A n c] W (EvR l W) := by
  go_enter Try.func50, Try.ntmps50
  go_wp2_with fail
  have he1 : Eff 0 0 W (W.alloc (.cells #[.int .i64 0, .int .i64 0, .int .i64 0, .int .i64 0, .int .i64 0, .int .i64 0, .bool false] 42)) := Eff.alloc _ _
  have hs1 : (W.alloc (.cells #[.int .i64 0, .int .i64 0, .int .i64 0, .int .i64 0, .int .i64 0, .int .i64 0, .bool false] 42)).heap.size = W.heap.size + 1 := (by simp)
  have res_0 : (W.alloc (.cells #[.int .i64 0, .int .i64 0, .int .i64 0, .int .i64 0, .int .i64 0, .int .i64 0, .bool false] 42)).cell? ⟨W.heap.size, 0, none⟩ = some (.int .i64 0) := var_cell _ _ _ _ _ rfl
  have res_1 : (W.alloc (.cells #[.int .i64 0, .int .i64 0, .int .i64 0, .int .i64 0, .int .i64 0, .int .i64 0, .bool false] 42)).cell? ⟨W.heap.size, 1, none⟩ = some (.int .i64 0) := var_cell _ _ _ _ _ rfl
  have res_2 : (W.alloc (.cells #[.int .i64 0, .int .i64 0, .int .i64 0, .int .i64 0, .int .i64 0, .int .i64 0, .bool false] 42)).cell? ⟨W.heap.size, 2, none⟩ = some (.int .i64 0) := var_cell _ _ _ _ _ rfl
  have res_3 : (W.alloc (.cells #[.int .i64 0, .int .i64 0, .int .i64 0, .int .i64 0, .int .i64 0, .int .i64 0, .bool false] 42)).cell? ⟨W.heap.size, 3, none⟩ = some (.int .i64 0) := var_cell _ _ _ _ _ rfl
  have res_4 : (W.alloc (.cells #[.int .i64 0, .int .i64 0, .int .i64 0, .int .i64 0, .int .i64 0, .int .i64 0, .bool false] 42)).cell? ⟨W.heap.size, 4, none⟩ = some (.int .i64 0) := var_cell _ _ _ _ _ rfl
  have res_5 : (W.alloc (.cells #[.int .i64 0, .int .i64 0, .int .i64 0, .int .i64 0, .int .i64 0, .int .i64 0, .bool false] 42)).cell? ⟨W.heap.size, 5, none⟩ = some (.int .i64 0) := var_cell _ _ _ _ _ rfl
  have res_6 : (W.alloc (.cells #[.int .i64 0, .int .i64 0, .int .i64 0, .int .i64 0, .int .i64 0, .int .i64 0, .bool false] 42)).cell? ⟨W.heap.size, 6, none⟩ = some (.bool false) := var_cell _ _ _ _ _ rfl
  have res_f0 : (W.alloc (.cells #[.int .i64 0, .int .i64 0, .int .i64 0, .int .i64 0, .int .i64 0, .int .i64 0, .bool false] 42)).frozen? ⟨W.heap.size, 0, none⟩ = false := var_frozen _ _ _ _
  have res_f1 : (W.alloc (.cells #[.int .i64 0, .int .i64 0, .int .i64 0, .int .i64 0, .int .i64 0, .int .i64 0, .bool false] 42)).frozen? ⟨W.heap.size, 1, none⟩ = false := var_frozen _ _ _ _
  have res_f2 : (W.alloc (.cells #[.int .i64 0, .int .i64 0, .int .i64 0, .int .i64 0, .int .i64 0, .int .i64 0, .bool false] 42)).frozen? ⟨W.heap.size, 2, none⟩ = false := var_frozen _ _ _ _
  have res_f3 : (W.alloc (.cells #[.int .i64 0, .int .i64 0, .int .i64 0, .int .i64 0, .int .i64 0, .int .i64 0, .bool false] 42)).frozen? ⟨W.heap.size, 3, none⟩ = false := var_frozen _ _ _ _
  have res_f4 : (W.alloc (.cells #[.int .i64 0, .int .i64 0, .int .i64 0, .int .i64 0, .int .i64 0, .int .i64 0, .bool false] 42)).frozen? ⟨W.heap.size, 4, none⟩ = false := var_frozen _ _ _ _
  have res_f5 : (W.alloc (.cells #[.int .i64 0, .int .i64 0, .int .i64 0, .int .i64 0, .int .i64 0, .int .i64 0, .bool false] 42)).frozen? ⟨W.heap.size, 5, none⟩ = false := var_frozen _ _ _ _
  have res_f6 : (W.alloc (.cells #[.int .i64 0, .int .i64 0, .int .i64 0, .int .i64 0, .int .i64 0, .int .i64 0, .bool false] 42)).frozen? ⟨W.heap.size, 6, none⟩ = false := var_frozen _ _ _ _
  generalize (W.alloc (.cells #[.int .i64 0, .int .i64 0, .int .i64 0, .int .i64 0, .int .i64 0, .int .i64 0, .bool false] 42)) = w1 at *
  have hz1 : W.heap.size ≤ w1.heap.size := he1.size
  have b1 : Below W.heap.size W w1 := he1.below (Nat.le_refl _) (by omega)
  replace hr := (hr.below (he1.below (B := W.heap.size) (by omega) (by omega)) (Nat.le_refl _))
  have res_l : W.heap.size < w1.heap.size := (by omega)
  have he2 : Eff 0 0 w1 (w1.alloc (.cells #[.int .i64 0, .int .i64 0, .int .i64 0, .int .i64 0, .int .i64 0, .int .i64 0, .bool false] 42)) := Eff.alloc _ _
  have hs2 : (w1.alloc (.cells #[.int .i64 0, .int .i64 0, .int .i64 0, .int .i64 0, .int .i64 0, .int .i64 0, .bool false] 42)).heap.size = w1.heap.size + 1 := (by simp)
  have s_0 : (w1.alloc (.cells #[.int .i64 0, .int .i64 0, .int .i64 0, .int .i64 0, .int .i64 0, .int .i64 0, .bool false] 42)).cell? ⟨w1.heap.size, 0, none⟩ = some (.int .i64 0) := var_cell _ _ _ _ _ rfl
  have s_1 : (w1.alloc (.cells #[.int .i64 0, .int .i64 0, .int .i64 0, .int .i64 0, .int .i64 0, .int .i64 0, .bool false] 42)).cell? ⟨w1.heap.size, 1, none⟩ = some (.int .i64 0) := var_cell _ _ _ _ _ rfl
  have s_2 : (w1.alloc (.cells #[.int .i64 0, .int .i64 0, .int .i64 0, .int .i64 0, .int .i64 0, .int .i64 0, .bool false] 42)).cell? ⟨w1.heap.size, 2, none⟩ = some (.int .i64 0) := var_cell _ _ _ _ _ rfl
  have s_3 : (w1.alloc (.cells #[.int .i64 0, .int .i64 0, .int .i64 0, .int .i64 0, .int .i64 0, .int .i64 0, .bool false] 42)).cell? ⟨w1.heap.size, 3, none⟩ = some (.int .i64 0) := var_cell _ _ _ _ _ rfl
  have s_4 : (w1.alloc (.cells #[.int .i64 0, .int .i64 0, .int .i64 0, .int .i64 0, .int .i64 0, .int .i64 0, .bool false] 42)).cell? ⟨w1.heap.size, 4, none⟩ = some (.int .i64 0) := var_cell _ _ _ _ _ rfl
  have s_5 : (w1.alloc (.cells #[.int .i64 0, .int .i64 0, .int .i64 0, .int .i64 0, .int .i64 0, .int .i64 0, .bool false] 42)).cell? ⟨w1.heap.size, 5, none⟩ = some (.int .i64 0) := var_cell _ _ _ _ _ rfl
  have s_6 : (w1.alloc (.cells #[.int .i64 0, .int .i64 0, .int .i64 0, .int .i64 0, .int .i64 0, .int .i64 0, .bool false] 42)).cell? ⟨w1.heap.size, 6, none⟩ = some (.bool false) := var_cell _ _ _ _ _ rfl
  have s_f0 : (w1.alloc (.cells #[.int .i64 0, .int .i64 0, .int .i64 0, .int .i64 0, .int .i64 0, .int .i64 0, .bool false] 42)).frozen? ⟨w1.heap.size, 0, none⟩ = false := var_frozen _ _ _ _
  have s_f1 : (w1.alloc (.cells #[.int .i64 0, .int .i64 0, .int .i64 0, .int .i64 0, .int .i64 0, .int .i64 0, .bool false] 42)).frozen? ⟨w1.heap.size, 1, none⟩ = false := var_frozen _ _ _ _
  have s_f2 : (w1.alloc (.cells #[.int .i64 0, .int .i64 0, .int .i64 0, .int .i64 0, .int .i64 0, .int .i64 0, .bool false] 42)).frozen? ⟨w1.heap.size, 2, none⟩ = false := var_frozen _ _ _ _
  have s_f3 : (w1.alloc (.cells #[.int .i64 0, .int .i64 0, .int .i64 0, .int .i64 0, .int .i64 0, .int .i64 0, .bool false] 42)).frozen? ⟨w1.heap.size, 3, none⟩ = false := var_frozen _ _ _ _
  have s_f4 : (w1.alloc (.cells #[.int .i64 0, .int .i64 0, .int .i64 0, .int .i64 0, .int .i64 0, .int .i64 0, .bool false] 42)).frozen? ⟨w1.heap.size, 4, none⟩ = false := var_frozen _ _ _ _
  have s_f5 : (w1.alloc (.cells #[.int .i64 0, .int .i64 0, .int .i64 0, .int .i64 0, .int .i64 0, .int .i64 0, .bool false] 42)).frozen? ⟨w1.heap.size, 5, none⟩ = false := var_frozen _ _ _ _
  have s_f6 : (w1.alloc (.cells #[.int .i64 0, .int .i64 0, .int .i64 0, .int .i64 0, .int .i64 0, .int .i64 0, .bool false] 42)).frozen? ⟨w1.heap.size, 6, none⟩ = false := var_frozen _ _ _ _
  generalize (w1.alloc (.cells #[.int .i64 0, .int .i64 0, .int .i64 0, .int .i64 0, .int .i64 0, .int .i64 0, .bool false] 42)) = w2 at *
  have hz2 : w1.heap.size ≤ w2.heap.size := he2.size
  have b2 : Below W.heap.size W w2 := b1.trans (he2.below b1.size (by omega))
  replace hr := (hr.below (he2.below (B := W.heap.size) (by omega) (by omega)) (Nat.le_refl _))
  replace res_f0 := (he2.frozen res_0 (by simp only; omega)).trans res_f0
  replace res_f1 := (he2.frozen res_1 (by simp only; omega)).trans res_f1
  replace res_f2 := (he2.frozen res_2 (by simp only; omega)).trans res_f2
  replace res_f3 := (he2.frozen res_3 (by simp only; omega)).trans res_f3
  replace res_f4 := (he2.frozen res_4 (by simp only; omega)).trans res_f4
  replace res_f5 := (he2.frozen res_5 (by simp only; omega)).trans res_f5
  replace res_f6 := (he2.frozen res_6 (by simp only; omega)).trans res_f6
  replace res_0 := he2.cell res_0 (by simp only; omega)
  replace res_1 := he2.cell res_1 (by simp only; omega)
  replace res_2 := he2.cell res_2 (by simp only; omega)
  replace res_3 := he2.cell res_3 (by simp only; omega)
  replace res_4 := he2.cell res_4 (by simp only; omega)
  replace res_5 := he2.cell res_5 (by simp only; omega)
  replace res_6 := he2.cell res_6 (by simp only; omega)
  replace res_l := Nat.lt_of_lt_of_le res_l hz2
  rw [hs1] at s_0 s_f0
  rw [hs1] at s_1 s_f1
  rw [hs1] at s_2 s_f2
  rw [hs1] at s_3 s_f3
  rw [hs1] at s_4 s_f4
  rw [hs1] at s_5 s_f5
  rw [hs1] at s_6 s_f6
  have s_l : W.heap.size + 1 < w2.heap.size := (by omega)
  refine (spec_GetNum _ n _ l 1 1 (by omega) w2 (hr.more (by omega))).mono ?_
  rintro e w3 ⟨rfl, hb⟩
  have he3 : Eff 0 0 w2 w3 := Eff.of hb
  have hz3 : w2.heap.size ≤ w3.heap.size := he3.size
  have b3 : Below W.heap.size W w3 := b2.trans (he3.below b2.size (by omega))
  replace hr := (hr.below (he3.below (B := W.heap.size) (by omega) (by omega)) (Nat.le_refl _))
  replace res_f0 := (he3.frozen res_0 (by simp only; omega)).trans res_f0
  replace res_f1 := (he3.frozen res_1 (by simp only; omega)).trans res_f1
  replace res_f2 := (he3.frozen res_2 (by simp only; omega)).trans res_f2
  replace res_f3 := (he3.frozen res_3 (by simp only; omega)).trans res_f3
  replace res_f4 := (he3.frozen res_4 (by simp only; omega)).trans res_f4
  replace res_f5 := (he3.frozen res_5 (by simp only; omega)).trans res_f5
  replace res_f6 := (he3.frozen res_6 (by simp only; omega)).trans res_f6
  replace s_f0 := (he3.frozen s_0 (by simp only; omega)).trans s_f0
  replace s_f1 := (he3.frozen s_1 (by simp only; omega)).trans s_f1
  replace s_f2 := (he3.frozen s_2 (by simp only; omega)).trans s_f2
  replace s_f3 := (he3.frozen s_3 (by simp only; omega)).trans s_f3
  replace s_f4 := (he3.frozen s_4 (by simp only; omega)).trans s_f4
  replace s_f5 := (he3.frozen s_5 (by simp only; omega)).trans s_f5
  replace s_f6 := (he3.frozen s_6 (by simp only; omega)).trans s_f6
  replace res_0 := he3.cell res_0 (by simp only; omega)
  replace res_1 := he3.cell res_1 (by simp only; omega)
  replace res_2 := he3.cell res_2 (by simp only; omega)
  replace res_3 := he3.cell res_3 (by simp only; omega)
  replace res_4 := he3.cell res_4 (by simp only; omega)
  replace res_5 := he3.cell res_5 (by simp only; omega)
  replace res_6 := he3.cell res_6 (by simp only; omega)
  replace s_0 := he3.cell s_0 (by simp only; omega)
  replace s_1 := he3.cell s_1 (by simp only; omega)
  replace s_2 := he3.cell s_2 (by simp only; omega)
  replace s_3 := he3.cell s_3 (by simp only; omega)
  replace s_4 := he3.cell s_4 (by simp only; omega)
  replace s_5 := he3.cell s_5 (by simp only; omega)
  replace s_6 := he3.cell s_6 (by simp only; omega)
  replace res_l := Nat.lt_of_lt_of_le res_l hz3
  replace s_l := Nat.lt_of_lt_of_le s_l hz3
  clear hb
  rw [H0.out]
  go_wp2_with fail
  have he4 : Eff (W.heap.size + 1) (W.heap.size + 1 + 1) w3 (w3.setCell ⟨W.heap.size + 1, 0, none⟩ (.int .i64 v0)) := eff_set _ _ _ _
  replace res_f0 := (he4.frozen res_0 (by simp only; omega)).trans res_f0
  replace res_f1 := (he4.frozen res_1 (by simp only; omega)).trans res_f1
  replace res_f2 := (he4.frozen res_2 (by simp only; omega)).trans res_f2
  replace res_f3 := (he4.frozen res_3 (by simp only; omega)).trans res_f3
  replace res_f4 := (he4.frozen res_4 (by simp only; omega)).trans res_f4
  replace res_f5 := (he4.frozen res_5 (by simp only; omega)).trans res_f5
  replace res_f6 := (he4.frozen res_6 (by simp only; omega)).trans res_f6
  replace s_f0 := set_frozen (p := ⟨W.heap.size + 1, 0, none⟩) s_f0 (.int .i64 v0)
  replace s_f1 := set_frozen (p := ⟨W.heap.size + 1, 0, none⟩) s_f1 (.int .i64 v0)
  replace s_f2 := set_frozen (p := ⟨W.heap.size + 1, 0, none⟩) s_f2 (.int .i64 v0)
  replace s_f3 := set_frozen (p := ⟨W.heap.size + 1, 0, none⟩) s_f3 (.int .i64 v0)
  replace s_f4 := set_frozen (p := ⟨W.heap.size + 1, 0, none⟩) s_f4 (.int .i64 v0)
  replace s_f5 := set_frozen (p := ⟨W.heap.size + 1, 0, none⟩) s_f5 (.int .i64 v0)
  replace s_f6 := set_frozen (p := ⟨W.heap.size + 1, 0, none⟩) s_f6 (.int .i64 v0)
  replace res_0 := he4.cell res_0 (by simp only; omega)
  replace res_1 := he4.cell res_1 (by simp only; omega)
  replace res_2 := he4.cell res_2 (by simp only; omega)
  replace res_3 := he4.cell res_3 (by simp only; omega)
  replace res_4 := he4.cell res_4 (by simp only; omega)
  replace res_5 := he4.cell res_5 (by simp only; omega)
  replace res_6 := he4.cell res_6 (by simp only; omega)
  replace s_0 := set_same s_0 (.int .i64 v0)
  replace s_1 := set_other (b' := W.heap.size + 1) (o' := 0) s_1 (.int .i64 v0) (.inr (by omega))
  replace s_2 := set_other (b' := W.heap.size + 1) (o' := 0) s_2 (.int .i64 v0) (.inr (by omega))
  replace s_3 := set_other (b' := W.heap.size + 1) (o' := 0) s_3 (.int .i64 v0) (.inr (by omega))
  replace s_4 := set_other (b' := W.heap.size + 1) (o' := 0) s_4 (.int .i64 v0) (.inr (by omega))
  replace s_5 := set_other (b' := W.heap.size + 1) (o' := 0) s_5 (.int .i64 v0) (.inr (by omega))
  replace s_6 := set_other (b' := W.heap.size + 1) (o' := 0) s_6 (.int .i64 v0) (.inr (by omega))
  have hz4 : w3.heap.size ≤ (w3.setCell ⟨W.heap.size + 1, 0, none⟩ (.int .i64 v0)).heap.size := he4.size
  generalize (w3.setCell ⟨W.heap.size + 1, 0, none⟩ (.int .i64 v0)) = w4 at *
  have b4 : Below W.heap.size W w4 := b3.trans (he4.below b3.size (by omega))
  replace hr := (hr.below (he4.below (B := W.heap.size) (by omega) (by omega)) (Nat.le_refl _))
  replace res_l := Nat.lt_of_lt_of_le res_l hz4
  replace s_l := Nat.lt_of_lt_of_le s_l hz4
  refine (spec_GetNum _ n _ l 2 3 (by omega) w4 (hr.more (by omega))).mono ?_
  rintro e w5 ⟨rfl, hb⟩
  have he5 : Eff 0 0 w4 w5 := Eff.of hb
  have hz5 : w4.heap.size ≤ w5.heap.size := he5.size
  have b5 : Below W.heap.size W w5 := b4.trans (he5.below b4.size (by omega))
  replace hr := (hr.below (he5.below (B := W.heap.size) (by omega) (by omega)) (Nat.le_refl _))
  replace res_f0 := (he5.frozen res_0 (by simp only; omega)).trans res_f0
  replace res_f1 := (he5.frozen res_1 (by simp only; omega)).trans res_f1
  replace res_f2 := (he5.frozen res_2 (by simp only; omega)).trans res_f2
  replace res_f3 := (he5.frozen res_3 (by simp only; omega)).trans res_f3
  replace res_f4 := (he5.frozen res_4 (by simp only; omega)).trans res_f4
  replace res_f5 := (he5.frozen res_5 (by simp only; omega)).trans res_f5
  replace res_f6 := (he5.frozen res_6 (by simp only; omega)).trans res_f6
  replace s_f0 := (he5.frozen s_0 (by simp only; omega)).trans s_f0
  replace s_f1 := (he5.frozen s_1 (by simp only; omega)).trans s_f1
  replace s_f2 := (he5.frozen s_2 (by simp only; omega)).trans s_f2
  replace s_f3 := (he5.frozen s_3 (by simp only; omega)).trans s_f3
  replace s_f4 := (he5.frozen s_4 (by simp only; omega)).trans s_f4
  replace s_f5 := (he5.frozen s_5 (by simp only; omega)).trans s_f5
  replace s_f6 := (he5.frozen s_6 (by simp only; omega)).trans s_f6
  replace res_0 := he5.cell res_0 (by simp only; omega)
  replace res_1 := he5.cell res_1 (by simp only; omega)
  replace res_2 := he5.cell res_2 (by simp only; omega)
  replace res_3 := he5.cell res_3 (by simp only; omega)
  replace res_4 := he5.cell res_4 (by simp only; omega)
  replace res_5 := he5.cell res_5 (by simp only; omega)
  replace res_6 := he5.cell res_6 (by simp only; omega)
  replace s_0 := he5.cell s_0 (by simp only; omega)
  replace s_1 := he5.cell s_1 (by simp only; omega)
  replace s_2 := he5.cell s_2 (by simp only; omega)
  replace s_3 := he5.cell s_3 (by simp only; omega)
  replace s_4 := he5.cell s_4 (by simp only; omega)
  replace s_5 := he5.cell s_5 (by simp only; omega)
  replace s_6 := he5.cell s_6 (by simp only; omega)
  replace res_l := Nat.lt_of_lt_of_le res_l hz5
  replace s_l := Nat.lt_of_lt_of_le s_l hz5
  clear hb
  rw [H1.out]
  go_wp2_with fail
  have he6 : Eff (W.heap.size + 1) (W.heap.size + 1 + 1) w5 (w5.setCell ⟨W.heap.size + 1, 1, none⟩ (.int .i64 v1)) := eff_set _ _ _ _
  replace res_f0 := (he6.frozen res_0 (by simp only; omega)).trans res_f0
  replace res_f1 := (he6.frozen res_1 (by simp only; omega)).trans res_f1
  replace res_f2 := (he6.frozen res_2 (by simp only; omega)).trans res_f2
  replace res_f3 := (he6.frozen res_3 (by simp only; omega)).trans res_f3
  replace res_f4 := (he6.frozen res_4 (by simp only; omega)).trans res_f4
  replace res_f5 := (he6.frozen res_5 (by simp only; omega)).trans res_f5
  replace res_f6 := (he6.frozen res_6 (by simp only; omega)).trans res_f6
  replace s_f0 := set_frozen (p := ⟨W.heap.size + 1, 1, none⟩) s_f0 (.int .i64 v1)
  replace s_f1 := set_frozen (p := ⟨W.heap.size + 1, 1, none⟩) s_f1 (.int .i64 v1)
  replace s_f2 := set_frozen (p := ⟨W.heap.size + 1, 1, none⟩) s_f2 (.int .i64 v1)
  replace s_f3 := set_frozen (p := ⟨W.heap.size + 1, 1, none⟩) s_f3 (.int .i64 v1)
  replace s_f4 := set_frozen (p := ⟨W.heap.size + 1, 1, none⟩) s_f4 (.int .i64 v1)
  replace s_f5 := set_frozen (p := ⟨W.heap.size + 1, 1, none⟩) s_f5 (.int .i64 v1)
  replace s_f6 := set_frozen (p := ⟨W.heap.size + 1, 1, none⟩) s_f6 (.int .i64 v1)
  replace res_0 := he6.cell res_0 (by simp only; omega)
  replace res_1 := he6.cell res_1 (by simp only; omega)
  replace res_2 := he6.cell res_2 (by simp only; omega)
  replace res_3 := he6.cell res_3 (by simp only; omega)
  replace res_4 := he6.cell res_4 (by simp only; omega)
  replace res_5 := he6.cell res_5 (by simp only; omega)
  replace res_6 := he6.cell res_6 (by simp only; omega)
  replace s_0 := set_other (b' := W.heap.size + 1) (o' := 1) s_0 (.int .i64 v1) (.inr (by omega))
  replace s_1 := set_same s_1 (.int .i64 v1)
  replace s_2 := set_other (b' := W.heap.size + 1) (o' := 1) s_2 (.int .i64 v1) (.inr (by omega))
  replace s_3 := set_other (b' := W.heap.size + 1) (o' := 1) s_3 (.int .i64 v1) (.inr (by omega))
  replace s_4 := set_other (b' := W.heap.size + 1) (o' := 1) s_4 (.int .i64 v1) (.inr (by omega))
  replace s_5 := set_other (b' := W.heap.size + 1) (o' := 1) s_5 (.int .i64 v1) (.inr (by omega))
  replace s_6 := set_other (b' := W.heap.size + 1) (o' := 1) s_6 (.int .i64 v1) (.inr (by omega))
  have hz6 : w5.heap.size ≤ (w5.setCell ⟨W.heap.size + 1, 1, none⟩ (.int .i64 v1)).heap.size := he6.size
  generalize (w5.setCell ⟨W.heap.size + 1, 1, none⟩ (.int .i64 v1)) = w6 at *
  have b6 : Below W.heap.size W w6 := b5.trans (he6.below b5.size (by omega))
  replace hr := (hr.below (he6.below (B := W.heap.size) (by omega) (by omega)) (Nat.le_refl _))
  replace res_l := Nat.lt_of_lt_of_le res_l hz6
  replace s_l := Nat.lt_of_lt_of_le s_l hz6
  refine (spec_GetNum _ n _ l 5 1 (by omega) w6 (hr.more (by omega))).mono ?_
  rintro e w7 ⟨rfl, hb⟩
  have he7 : Eff 0 0 w6 w7 := Eff.of hb
  have hz7 : w6.heap.size ≤ w7.heap.size := he7.size
  have b7 : Below W.heap.size W w7 := b6.trans (he7.below b6.size (by omega))
  replace hr := (hr.below (he7.below (B := W.heap.size) (by omega) (by omega)) (Nat.le_refl _))
  replace res_f0 := (he7.frozen res_0 (by simp only; omega)).trans res_f0
  replace res_f1 := (he7.frozen res_1 (by simp only; omega)).trans res_f1
  replace res_f2 := (he7.frozen res_2 (by simp only; omega)).trans res_f2
  replace res_f3 := (he7.frozen res_3 (by simp only; omega)).trans res_f3
  replace res_f4 := (he7.frozen res_4 (by simp only; omega)).trans res_f4
  replace res_f5 := (he7.frozen res_5 (by simp only; omega)).trans res_f5
  replace res_f6 := (he7.frozen res_6 (by simp only; omega)).trans res_f6
  replace s_f0 := (he7.frozen s_0 (by simp only; omega)).trans s_f0
  replace s_f1 := (he7.frozen s_1 (by simp only; omega)).trans s_f1
  replace s_f2 := (he7.frozen s_2 (by simp only; omega)).trans s_f2
  replace s_f3 := (he7.frozen s_3 (by simp only; omega)).trans s_f3
  replace s_f4 := (he7.frozen s_4 (by simp only; omega)).trans s_f4
  replace s_f5 := (he7.frozen s_5 (by simp only; omega)).trans s_f5
  replace s_f6 := (he7.frozen s_6 (by simp only; omega)).trans s_f6
  replace res_0 := he7.cell res_0 (by simp only; omega)
  replace res_1 := he7.cell res_1 (by simp only; omega)
  replace res_2 := he7.cell res_2 (by simp only; omega)
  replace res_3 := he7.cell res_3 (by simp only; omega)
  replace res_4 := he7.cell res_4 (by simp only; omega)
  replace res_5 := he7.cell res_5 (by simp only; omega)
  replace res_6 := he7.cell res_6 (by simp only; omega)
  replace s_0 := he7.cell s_0 (by simp only; omega)
  replace s_1 := he7.cell s_1 (by simp only; omega)
  replace s_2 := he7.cell s_2 (by simp only; omega)
  replace s_3 := he7.cell s_3 (by simp only; omega)
  replace s_4 := he7.cell s_4 (by simp only; omega)
  replace s_5 := he7.cell s_5 (by simp only; omega)
  replace s_6 := he7.cell s_6 (by simp only; omega)
  replace res_l := Nat.lt_of_lt_of_le res_l hz7
  replace s_l := Nat.lt_of_lt_of_le s_l hz7
  clear hb
  rw [H2.out]
  go_wp2_with fail
  have he8 : Eff (W.heap.size + 1) (W.heap.size + 1 + 1) w7 (w7.setCell ⟨W.heap.size + 1, 2, none⟩ (.int .i64 v2)) := eff_set _ _ _ _
  replace res_f0 := (he8.frozen res_0 (by simp only; omega)).trans res_f0
  replace res_f1 := (he8.frozen res_1 (by simp only; omega)).trans res_f1
  replace res_f2 := (he8.frozen res_2 (by simp only; omega)).trans res_f2
  replace res_f3 := (he8.frozen res_3 (by simp only; omega)).trans res_f3
  replace res_f4 := (he8.frozen res_4 (by simp only; omega)).trans res_f4
  replace res_f5 := (he8.frozen res_5 (by simp only; omega)).trans res_f5
  replace res_f6 := (he8.frozen res_6 (by simp only; omega)).trans res_f6
  replace s_f0 := set_frozen (p := ⟨W.heap.size + 1, 2, none⟩) s_f0 (.int .i64 v2)
  replace s_f1 := set_frozen (p := ⟨W.heap.size + 1, 2, none⟩) s_f1 (.int .i64 v2)
  replace s_f2 := set_frozen (p := ⟨W.heap.size + 1, 2, none⟩) s_f2 (.int .i64 v2)
  replace s_f3 := set_frozen (p := ⟨W.heap.size + 1, 2, none⟩) s_f3 (.int .i64 v2)
  replace s_f4 := set_frozen (p := ⟨W.heap.size + 1, 2, none⟩) s_f4 (.int .i64 v2)
  replace s_f5 := set_frozen (p := ⟨W.heap.size + 1, 2, none⟩) s_f5 (.int .i64 v2)
  replace s_f6 := set_frozen (p := ⟨W.heap.size + 1, 2, none⟩) s_f6 (.int .i64 v2)
  replace res_0 := he8.cell res_0 (by simp only; omega)
  replace res_1 := he8.cell res_1 (by simp only; omega)
  replace res_2 := he8.cell res_2 (by simp only; omega)
  replace res_3 := he8.cell res_3 (by simp only; omega)
  replace res_4 := he8.cell res_4 (by simp only; omega)
  replace res_5 := he8.cell res_5 (by simp only; omega)
  replace res_6 := he8.cell res_6 (by simp only; omega)
  replace s_0 := set_other (b' := W.heap.size + 1) (o' := 2) s_0 (.int .i64 v2) (.inr (by omega))
  replace s_1 := set_other (b' := W.heap.size + 1) (o' := 2) s_1 (.int .i64 v2) (.inr (by omega))
  replace s_2 := set_same s_2 (.int .i64 v2)
  replace s_3 := set_other (b' := W.heap.size + 1) (o' := 2) s_3 (.int .i64 v2) (.inr (by omega))
  replace s_4 := set_other (b' := W.heap.size + 1) (o' := 2) s_4 (.int .i64 v2) (.inr (by omega))
  replace s_5 := set_other (b' := W.heap.size + 1) (o' := 2) s_5 (.int .i64 v2) (.inr (by omega))
  replace s_6 := set_other (b' := W.heap.size + 1) (o' := 2) s_6 (.int .i64 v2) (.inr (by omega))
  have hz8 : w7.heap.size ≤ (w7.setCell ⟨W.heap.size + 1, 2, none⟩ (.int .i64 v2)).heap.size := he8.size
  generalize (w7.setCell ⟨W.heap.size + 1, 2, none⟩ (.int .i64 v2)) = w8 at *
  have b8 : Below W.heap.size W w8 := b7.trans (he8.below b7.size (by omega))
  replace hr := (hr.below (he8.below (B := W.heap.size) (by omega) (by omega)) (Nat.le_refl _))
  replace res_l := Nat.lt_of_lt_of_le res_l hz8
  replace s_l := Nat.lt_of_lt_of_le s_l hz8
  refine (spec_GetNum _ n _ l 6 1 (by omega) w8 (hr.more (by omega))).mono ?_
  rintro e w9 ⟨rfl, hb⟩
  have he9 : Eff 0 0 w8 w9 := Eff.of hb
  have hz9 : w8.heap.size ≤ w9.heap.size := he9.size
  have b9 : Below W.heap.size W w9 := b8.trans (he9.below b8.size (by omega))
  replace hr := (hr.below (he9.below (B := W.heap.size) (by omega) (by omega)) (Nat.le_refl _))
  replace res_f0 := (he9.frozen res_0 (by simp only; omega)).trans res_f0
  replace res_f1 := (he9.frozen res_1 (by simp only; omega)).trans res_f1
  replace res_f2 := (he9.frozen res_2 (by simp only; omega)).trans res_f2
  replace res_f3 := (he9.frozen res_3 (by simp only; omega)).trans res_f3
  replace res_f4 := (he9.frozen res_4 (by simp only; omega)).trans res_f4
  replace res_f5 := (he9.frozen res_5 (by simp only; omega)).trans res_f5
  replace res_f6 := (he9.frozen res_6 (by simp only; omega)).trans res_f6
  replace s_f0 := (he9.frozen s_0 (by simp only; omega)).trans s_f0
  replace s_f1 := (he9.frozen s_1 (by simp only; omega)).trans s_f1
  replace s_f2 := (he9.frozen s_2 (by simp only; omega)).trans s_f2
  replace s_f3 := (he9.frozen s_3 (by simp only; omega)).trans s_f3
  replace s_f4 := (he9.frozen s_4 (by simp only; omega)).trans s_f4
  replace s_f5 := (he9.frozen s_5 (by simp only; omega)).trans s_f5
  replace s_f6 := (he9.frozen s_6 (by simp only; omega)).trans s_f6
  replace res_0 := he9.cell res_0 (by simp only; omega)
  replace res_1 := he9.cell res_1 (by simp only; omega)
  replace res_2 := he9.cell res_2 (by simp only; omega)
  replace res_3 := he9.cell res_3 (by simp only; omega)
  replace res_4 := he9.cell res_4 (by simp only; omega)
  replace res_5 := he9.cell res_5 (by simp only; omega)
  replace res_6 := he9.cell res_6 (by simp only; omega)
  replace s_0 := he9.cell s_0 (by simp only; omega)
  replace s_1 := he9.cell s_1 (by simp only; omega)
  replace s_2 := he9.cell s_2 (by simp only; omega)
  replace s_3 := he9.cell s_3 (by simp only; omega)
  replace s_4 := he9.cell s_4 (by simp only; omega)
  replace s_5 := he9.cell s_5 (by simp only; omega)
  replace s_6 := he9.cell s_6 (by simp only; omega)
  replace res_l := Nat.lt_of_lt_of_le res_l hz9
  replace s_l := Nat.lt_of_lt_of_le s_l hz9
  clear hb
  rw [H3.out]
  go_wp2_with fail
  have he10 : Eff (W.heap.size + 1) (W.heap.size + 1 + 1) w9 (w9.setCell ⟨W.heap.size + 1, 3, none⟩ (.int .i64 v3)) := eff_set _ _ _ _
  replace res_f0 := (he10.frozen res_0 (by simp only; omega)).trans res_f0
  replace res_f1 := (he10.frozen res_1 (by simp only; omega)).trans res_f1
  replace res_f2 := (he10.frozen res_2 (by simp only; omega)).trans res_f2
  replace res_f3 := (he10.frozen res_3 (by simp only; omega)).trans res_f3
  replace res_f4 := (he10.frozen res_4 (by simp only; omega)).trans res_f4
  replace res_f5 := (he10.frozen res_5 (by simp only; omega)).trans res_f5
  replace res_f6 := (he10.frozen res_6 (by simp only; omega)).trans res_f6
  replace s_f0 := set_frozen (p := ⟨W.heap.size + 1, 3, none⟩) s_f0 (.int .i64 v3)
  replace s_f1 := set_frozen (p := ⟨W.heap.size + 1, 3, none⟩) s_f1 (.int .i64 v3)
  replace s_f2 := set_frozen (p := ⟨W.heap.size + 1, 3, none⟩) s_f2 (.int .i64 v3)
  replace s_f3 := set_frozen (p := ⟨W.heap.size + 1, 3, none⟩) s_f3 (.int .i64 v3)
  replace s_f4 := set_frozen (p := ⟨W.heap.size + 1, 3, none⟩) s_f4 (.int .i64 v3)
  replace s_f5 := set_frozen (p := ⟨W.heap.size + 1, 3, none⟩) s_f5 (.int .i64 v3)
  replace s_f6 := set_frozen (p := ⟨W.heap.size + 1, 3, none⟩) s_f6 (.int .i64 v3)
  replace res_0 := he10.cell res_0 (by simp only; omega)
  replace res_1 := he10.cell res_1 (by simp only; omega)
  replace res_2 := he10.cell res_2 (by simp only; omega)
  replace res_3 := he10.cell res_3 (by simp only; omega)
  replace res_4 := he10.cell res_4 (by simp only; omega)
  replace res_5 := he10.cell res_5 (by simp only; omega)
  replace res_6 := he10.cell res_6 (by simp only; omega)
  replace s_0 := set_other (b' := W.heap.size + 1) (o' := 3) s_0 (.int .i64 v3) (.inr (by omega))
  replace s_1 := set_other (b' := W.heap.size + 1) (o' := 3) s_1 (.int .i64 v3) (.inr (by omega))
  replace s_2 := set_other (b' := W.heap.size + 1) (o' := 3) s_2 (.int .i64 v3) (.inr (by omega))
  replace s_3 := set_same s_3 (.int .i64 v3)
  replace s_4 := set_other (b' := W.heap.size + 1) (o' := 3) s_4 (.int .i64 v3) (.inr (by omega))
  replace s_5 := set_other (b' := W.heap.size + 1) (o' := 3) s_5 (.int .i64 v3) (.inr (by omega))
  replace s_6 := set_other (b' := W.heap.size + 1) (o' := 3) s_6 (.int .i64 v3) (.inr (by omega))
  have hz10 : w9.heap.size ≤ (w9.setCell ⟨W.heap.size + 1, 3, none⟩ (.int .i64 v3)).heap.size := he10.size
  generalize (w9.setCell ⟨W.heap.size + 1, 3, none⟩ (.int .i64 v3)) = w10 at *
  have b10 : Below W.heap.size W w10 := b9.trans (he10.below b9.size (by omega))
  replace hr := (hr.below (he10.below (B := W.heap.size) (by omega) (by omega)) (Nat.le_refl _))
  replace res_l := Nat.lt_of_lt_of_le res_l hz10
  replace s_l := Nat.lt_of_lt_of_le s_l hz10
  refine (spec_GetNum _ n _ l 7 7 (by omega) w10 (hr.more (by omega))).mono ?_
  rintro e w11 ⟨rfl, hb⟩
  have he11 : Eff 0 0 w10 w11 := Eff.of hb
  have hz11 : w10.heap.size ≤ w11.heap.size := he11.size
  have b11 : Below W.heap.size W w11 := b10.trans (he11.below b10.size (by omega))
  replace hr := (hr.below (he11.below (B := W.heap.size) (by omega) (by omega)) (Nat.le_refl _))
  replace res_f0 := (he11.frozen res_0 (by simp only; omega)).trans res_f0
  replace res_f1 := (he11.frozen res_1 (by simp only; omega)).trans res_f1
  replace res_f2 := (he11.frozen res_2 (by simp only; omega)).trans res_f2
  replace res_f3 := (he11.frozen res_3 (by simp only; omega)).trans res_f3
  replace res_f4 := (he11.frozen res_4 (by simp only; omega)).trans res_f4
  replace res_f5 := (he11.frozen res_5 (by simp only; omega)).trans res_f5
  replace res_f6 := (he11.frozen res_6 (by simp only; omega)).trans res_f6
  replace s_f0 := (he11.frozen s_0 (by simp only; omega)).trans s_f0
  replace s_f1 := (he11.frozen s_1 (by simp only; omega)).trans s_f1
  replace s_f2 := (he11.frozen s_2 (by simp only; omega)).trans s_f2
  replace s_f3 := (he11.frozen s_3 (by simp only; omega)).trans s_f3
  replace s_f4 := (he11.frozen s_4 (by simp only; omega)).trans s_f4
  replace s_f5 := (he11.frozen s_5 (by simp only; omega)).trans s_f5
  replace s_f6 := (he11.frozen s_6 (by simp only; omega)).trans s_f6
  replace res_0 := he11.cell res_0 (by simp only; omega)
  replace res_1 := he11.cell res_1 (by simp only; omega)
  replace res_2 := he11.cell res_2 (by simp only; omega)
  replace res_3 := he11.cell res_3 (by simp only; omega)
  replace res_4 := he11.cell res_4 (by simp only; omega)
  replace res_5 := he11.cell res_5 (by simp only; omega)
  replace res_6 := he11.cell res_6 (by simp only; omega)
  replace s_0 := he11.cell s_0 (by simp only; omega)
  replace s_1 := he11.cell s_1 (by simp only; omega)
  replace s_2 := he11.cell s_2 (by simp only; omega)
  replace s_3 := he11.cell s_3 (by simp only; omega)
  replace s_4 := he11.cell s_4 (by simp only; omega)
  replace s_5 := he11.cell s_5 (by simp only; omega)
  replace s_6 := he11.cell s_6 (by simp only; omega)
  replace res_l := Nat.lt_of_lt_of_le res_l hz11
  replace s_l := Nat.lt_of_lt_of_le s_l hz11
  clear hb
  rw [H4.out]
  go_wp2_with fail
  have he12 : Eff (W.heap.size + 1) (W.heap.size + 1 + 1) w11 (w11.setCell ⟨W.heap.size + 1, 4, none⟩ (.int .i64 v4)) := eff_set _ _ _ _
  replace res_f0 := (he12.frozen res_0 (by simp only; omega)).trans res_f0
  replace res_f1 := (he12.frozen res_1 (by simp only; omega)).trans res_f1
  replace res_f2 := (he12.frozen res_2 (by simp only; omega)).trans res_f2
  replace res_f3 := (he12.frozen res_3 (by simp only; omega)).trans res_f3
  replace res_f4 := (he12.frozen res_4 (by simp only; omega)).trans res_f4
  replace res_f5 := (he12.frozen res_5 (by simp only; omega)).trans res_f5
  replace res_f6 := (he12.frozen res_6 (by simp only; omega)).trans res_f6
  replace s_f0 := set_frozen (p := ⟨W.heap.size + 1, 4, none⟩) s_f0 (.int .i64 v4)
  replace s_f1 := set_frozen (p := ⟨W.heap.size + 1, 4, none⟩) s_f1 (.int .i64 v4)
  replace s_f2 := set_frozen (p := ⟨W.heap.size + 1, 4, none⟩) s_f2 (.int .i64 v4)
  replace s_f3 := set_frozen (p := ⟨W.heap.size + 1, 4, none⟩) s_f3 (.int .i64 v4)
  replace s_f4 := set_frozen (p := ⟨W.heap.size + 1, 4, none⟩) s_f4 (.int .i64 v4)
  replace s_f5 := set_frozen (p := ⟨W.heap.size + 1, 4, none⟩) s_f5 (.int .i64 v4)
  replace s_f6 := set_frozen (p := ⟨W.heap.size + 1, 4, none⟩) s_f6 (.int .i64 v4)
  replace res_0 := he12.cell res_0 (by simp only; omega)
  replace res_1 := he12.cell res_1 (by simp only; omega)
  replace res_2 := he12.cell res_2 (by simp only; omega)
  replace res_3 := he12.cell res_3 (by simp only; omega)
  replace res_4 := he12.cell res_4 (by simp only; omega)
  replace res_5 := he12.cell res_5 (by simp only; omega)
  replace res_6 := he12.cell res_6 (by simp only; omega)
  replace s_0 := set_other (b' := W.heap.size + 1) (o' := 4) s_0 (.int .i64 v4) (.inr (by omega))
  replace s_1 := set_other (b' := W.heap.size + 1) (o' := 4) s_1 (.int .i64 v4) (.inr (by omega))
  replace s_2 := set_other (b' := W.heap.size + 1) (o' := 4) s_2 (.int .i64 v4) (.inr (by omega))
  replace s_3 := set_other (b' := W.heap.size + 1) (o' := 4) s_3 (.int .i64 v4) (.inr (by omega))
  replace s_4 := set_same s_4 (.int .i64 v4)
  replace s_5 := set_other (b' := W.heap.size + 1) (o' := 4) s_5 (.int .i64 v4) (.inr (by omega))
  replace s_6 := set_other (b' := W.heap.size + 1) (o' := 4) s_6 (.int .i64 v4) (.inr (by omega))
  have hz12 : w11.heap.size ≤ (w11.setCell ⟨W.heap.size + 1, 4, none⟩ (.int .i64 v4)).heap.size := he12.size
  generalize (w11.setCell ⟨W.heap.size + 1, 4, none⟩ (.int .i64 v4)) = w12 at *
  have b12 : Below W.heap.size W w12 := b11.trans (he12.below b11.size (by omega))
  replace hr := (hr.below (he12.below (B := W.heap.size) (by omega) (by omega)) (Nat.le_refl _))
  replace res_l := Nat.lt_of_lt_of_le res_l hz12
  replace s_l := Nat.lt_of_lt_of_le s_l hz12
  refine (spec_GetNum _ n _ l 14 7 (by omega) w12 (hr.more (by omega))).mono ?_
  rintro e w13 ⟨rfl, hb⟩
  have he13 : Eff 0 0 w12 w13 := Eff.of hb
  have hz13 : w12.heap.size ≤ w13.heap.size := he13.size
  have b13 : Below W.heap.size W w13 := b12.trans (he13.below b12.size (by omega))
  replace hr := (hr.below (he13.below (B := W.heap.size) (by omega) (by omega)) (Nat.le_refl _))
  replace res_f0 := (he13.frozen res_0 (by simp only; omega)).trans res_f0
  replace res_f1 := (he13.frozen res_1 (by simp only; omega)).trans res_f1
  replace res_f2 := (he13.frozen res_2 (by simp only; omega)).trans res_f2
  replace res_f3 := (he13.frozen res_3 (by simp only; omega)).trans res_f3
  replace res_f4 := (he13.frozen res_4 (by simp only; omega)).trans res_f4
  replace res_f5 := (he13.frozen res_5 (by simp only; omega)).trans res_f5
  replace res_f6 := (he13.frozen res_6 (by simp only; omega)).trans res_f6
  replace s_f0 := (he13.frozen s_0 (by simp only; omega)).trans s_f0
  replace s_f1 := (he13.frozen s_1 (by simp only; omega)).trans s_f1
  replace s_f2 := (he13.frozen s_2 (by simp only; omega)).trans s_f2
  replace s_f3 := (he13.frozen s_3 (by simp only; omega)).trans s_f3
  replace s_f4 := (he13.frozen s_4 (by simp only; omega)).trans s_f4
  replace s_f5 := (he13.frozen s_5 (by simp only; omega)).trans s_f5
  replace s_f6 := (he13.frozen s_6 (by simp only; omega)).trans s_f6
  replace res_0 := he13.cell res_0 (by simp only; omega)
  replace res_1 := he13.cell res_1 (by simp only; omega)
  replace res_2 := he13.cell res_2 (by simp only; omega)
  replace res_3 := he13.cell res_3 (by simp only; omega)
  replace res_4 := he13.cell res_4 (by simp only; omega)
  replace res_5 := he13.cell res_5 (by simp only; omega)
  replace res_6 := he13.cell res_6 (by simp only; omega)
  replace s_0 := he13.cell s_0 (by simp only; omega)
  replace s_1 := he13.cell s_1 (by simp only; omega)
  replace s_2 := he13.cell s_2 (by simp only; omega)
  replace s_3 := he13.cell s_3 (by simp only; omega)
  replace s_4 := he13.cell s_4 (by simp only; omega)
  replace s_5 := he13.cell s_5 (by simp only; omega)
  replace s_6 := he13.cell s_6 (by simp only; omega)
  replace res_l := Nat.lt_of_lt_of_le res_l hz13
  replace s_l := Nat.lt_of_lt_of_le s_l hz13
  clear hb
  rw [H5.out]
  go_wp2_with fail
  have he14 : Eff (W.heap.size + 1) (W.heap.size + 1 + 1) w13 (w13.setCell ⟨W.heap.size + 1, 5, none⟩ (.int .i64 v5)) := eff_set _ _ _ _
  replace res_f0 := (he14.frozen res_0 (by simp only; omega)).trans res_f0
  replace res_f1 := (he14.frozen res_1 (by simp only; omega)).trans res_f1
  replace res_f2 := (he14.frozen res_2 (by simp only; omega)).trans res_f2
  replace res_f3 := (he14.frozen res_3 (by simp only; omega)).trans res_f3
  replace res_f4 := (he14.frozen res_4 (by simp only; omega)).trans res_f4
  replace res_f5 := (he14.frozen res_5 (by simp only; omega)).trans res_f5
  replace res_f6 := (he14.frozen res_6 (by simp only; omega)).trans res_f6
  replace s_f0 := set_frozen (p := ⟨W.heap.size + 1, 5, none⟩) s_f0 (.int .i64 v5)
  replace s_f1 := set_frozen (p := ⟨W.heap.size + 1, 5, none⟩) s_f1 (.int .i64 v5)
  replace s_f2 := set_frozen (p := ⟨W.heap.size + 1, 5, none⟩) s_f2 (.int .i64 v5)
  replace s_f3 := set_frozen (p := ⟨W.heap.size + 1, 5, none⟩) s_f3 (.int .i64 v5)
  replace s_f4 := set_frozen (p := ⟨W.heap.size + 1, 5, none⟩) s_f4 (.int .i64 v5)
  replace s_f5 := set_frozen (p := ⟨W.heap.size + 1, 5, none⟩) s_f5 (.int .i64 v5)
  replace s_f6 := set_frozen (p := ⟨W.heap.size + 1, 5, none⟩) s_f6 (.int .i64 v5)
  replace res_0 := he14.cell res_0 (by simp only; omega)
  replace res_1 := he14.cell res_1 (by simp only; omega)
  replace res_2 := he14.cell res_2 (by simp only; omega)
  replace res_3 := he14.cell res_3 (by simp only; omega)
  replace res_4 := he14.cell res_4 (by simp only; omega)
  replace res_5 := he14.cell res_5 (by simp only; omega)
  replace res_6 := he14.cell res_6 (by simp only; omega)
  replace s_0 := set_other (b' := W.heap.size + 1) (o' := 5) s_0 (.int .i64 v5) (.inr (by omega))
  replace s_1 := set_other (b' := W.heap.size + 1) (o' := 5) s_1 (.int .i64 v5) (.inr (by omega))
  replace s_2 := set_other (b' := W.heap.size + 1) (o' := 5) s_2 (.int .i64 v5) (.inr (by omega))
  replace s_3 := set_other (b' := W.heap.size + 1) (o' := 5) s_3 (.int .i64 v5) (.inr (by omega))
  replace s_4 := set_other (b' := W.heap.size + 1) (o' := 5) s_4 (.int .i64 v5) (.inr (by omega))
  replace s_5 := set_same s_5 (.int .i64 v5)
  replace s_6 := set_other (b' := W.heap.size + 1) (o' := 5) s_6 (.int .i64 v5) (.inr (by omega))
  have hz14 : w13.heap.size ≤ (w13.setCell ⟨W.heap.size + 1, 5, none⟩ (.int .i64 v5)).heap.size := he14.size
  generalize (w13.setCell ⟨W.heap.size + 1, 5, none⟩ (.int .i64 v5)) = w14 at *
  have b14 : Below W.heap.size W w14 := b13.trans (he14.below b13.size (by omega))
  replace hr := (hr.below (he14.below (B := W.heap.size) (by omega) (by omega)) (Nat.le_refl _))
  replace res_l := Nat.lt_of_lt_of_le res_l hz14
  replace s_l := Nat.lt_of_lt_of_le s_l hz14
  refine (spec_GetNum _ n _ l 21 1 (by omega) w14 (hr.more (by omega))).mono ?_
  rintro e w15 ⟨rfl, hb⟩
  have he15 : Eff 0 0 w14 w15 := Eff.of hb
  have hz15 : w14.heap.size ≤ w15.heap.size := he15.size
  have b15 : Below W.heap.size W w15 := b14.trans (he15.below b14.size (by omega))
  replace hr := (hr.below (he15.below (B := W.heap.size) (by omega) (by omega)) (Nat.le_refl _))
  replace res_f0 := (he15.frozen res_0 (by simp only; omega)).trans res_f0
  replace res_f1 := (he15.frozen res_1 (by simp only; omega)).trans res_f1
  replace res_f2 := (he15.frozen res_2 (by simp only; omega)).trans res_f2
  replace res_f3 := (he15.frozen res_3 (by simp only; omega)).trans res_f3
  replace res_f4 := (he15.frozen res_4 (by simp only; omega)).trans res_f4
  replace res_f5 := (he15.frozen res_5 (by simp only; omega)).trans res_f5
  replace res_f6 := (he15.frozen res_6 (by simp only; omega)).trans res_f6
  replace s_f0 := (he15.frozen s_0 (by simp only; omega)).trans s_f0
  replace s_f1 := (he15.frozen s_1 (by simp only; omega)).trans s_f1
  replace s_f2 := (he15.frozen s_2 (by simp only; omega)).trans s_f2
  replace s_f3 := (he15.frozen s_3 (by simp only; omega)).trans s_f3
  replace s_f4 := (he15.frozen s_4 (by simp only; omega)).trans s_f4
  replace s_f5 := (he15.frozen s_5 (by simp only; omega)).trans s_f5
  replace s_f6 := (he15.frozen s_6 (by simp only; omega)).trans s_f6
  replace res_0 := he15.cell res_0 (by simp only; omega)
  replace res_1 := he15.cell res_1 (by simp only; omega)
  replace res_2 := he15.cell res_2 (by simp only; omega)
  replace res_3 := he15.cell res_3 (by simp only; omega)
  replace res_4 := he15.cell res_4 (by simp only; omega)
  replace res_5 := he15.cell res_5 (by simp only; omega)
  replace res_6 := he15.cell res_6 (by simp only; omega)
  replace s_0 := he15.cell s_0 (by simp only; omega)
  replace s_1 := he15.cell s_1 (by simp only; omega)
  replace s_2 := he15.cell s_2 (by simp only; omega)
  replace s_3 := he15.cell s_3 (by simp only; omega)
  replace s_4 := he15.cell s_4 (by simp only; omega)
  replace s_5 := he15.cell s_5 (by simp only; omega)
  replace s_6 := he15.cell s_6 (by simp only; omega)
  replace res_l := Nat.lt_of_lt_of_le res_l hz15
  replace s_l := Nat.lt_of_lt_of_le s_l hz15
  clear hb
  rw [H6.out]
  go_wp2_with fail
  have he16 : Eff (W.heap.size + 1) (W.heap.size + 1 + 1) w15 (w15.setCell ⟨W.heap.size + 1, 6, none⟩ (.bool (v6 == 1))) := eff_set _ _ _ _
  replace res_f0 := (he16.frozen res_0 (by simp only; omega)).trans res_f0
  replace res_f1 := (he16.frozen res_1 (by simp only; omega)).trans res_f1
  replace res_f2 := (he16.frozen res_2 (by simp only; omega)).trans res_f2
  replace res_f3 := (he16.frozen res_3 (by simp only; omega)).trans res_f3
  replace res_f4 := (he16.frozen res_4 (by simp only; omega)).trans res_f4
  replace res_f5 := (he16.frozen res_5 (by simp only; omega)).trans res_f5
  replace res_f6 := (he16.frozen res_6 (by simp only; omega)).trans res_f6
  replace s_f0 := set_frozen (p := ⟨W.heap.size + 1, 6, none⟩) s_f0 (.bool (v6 == 1))
  replace s_f1 := set_frozen (p := ⟨W.heap.size + 1, 6, none⟩) s_f1 (.bool (v6 == 1))
  replace s_f2 := set_frozen (p := ⟨W.heap.size + 1, 6, none⟩) s_f2 (.bool (v6 == 1))
  replace s_f3 := set_frozen (p := ⟨W.heap.size + 1, 6, none⟩) s_f3 (.bool (v6 == 1))
  replace s_f4 := set_frozen (p := ⟨W.heap.size + 1, 6, none⟩) s_f4 (.bool (v6 == 1))
  replace s_f5 := set_frozen (p := ⟨W.heap.size + 1, 6, none⟩) s_f5 (.bool (v6 == 1))
  replace s_f6 := set_frozen (p := ⟨W.heap.size + 1, 6, none⟩) s_f6 (.bool (v6 == 1))
  replace res_0 := he16.cell res_0 (by simp only; omega)
  replace res_1 := he16.cell res_1 (by simp only; omega)
  replace res_2 := he16.cell res_2 (by simp only; omega)
  replace res_3 := he16.cell res_3 (by simp only; omega)
  replace res_4 := he16.cell res_4 (by simp only; omega)
  replace res_5 := he16.cell res_5 (by simp only; omega)
  replace res_6 := he16.cell res_6 (by simp only; omega)
  replace s_0 := set_other (b' := W.heap.size + 1) (o' := 6) s_0 (.bool (v6 == 1)) (.inr (by omega))
  replace s_1 := set_other (b' := W.heap.size + 1) (o' := 6) s_1 (.bool (v6 == 1)) (.inr (by omega))
  replace s_2 := set_other (b' := W.heap.size + 1) (o' := 6) s_2 (.bool (v6 == 1)) (.inr (by omega))
  replace s_3 := set_other (b' := W.heap.size + 1) (o' := 6) s_3 (.bool (v6 == 1)) (.inr (by omega))
  replace s_4 := set_other (b' := W.heap.size + 1) (o' := 6) s_4 (.bool (v6 == 1)) (.inr (by omega))
  replace s_5 := set_other (b' := W.heap.size + 1) (o' := 6) s_5 (.bool (v6 == 1)) (.inr (by omega))
  replace s_6 := set_same s_6 (.bool (v6 == 1))
  have hz16 : w15.heap.size ≤ (w15.setCell ⟨W.heap.size + 1, 6, none⟩ (.bool (v6 == 1))).heap.size := he16.size
  generalize (w15.setCell ⟨W.heap.size + 1, 6, none⟩ (.bool (v6 == 1))) = w16 at *
  have b16 : Below W.heap.size W w16 := b15.trans (he16.below b15.size (by omega))
  replace hr := (hr.below (he16.below (B := W.heap.size) (by omega) (by omega)) (Nat.le_refl _))
  replace res_l := Nat.lt_of_lt_of_le res_l hz16
  replace s_l := Nat.lt_of_lt_of_le s_l hz16
  refine (spec_EventBody v0 v1 v2 v3 v4 v5 (v6 == 1) w16).mono ?_
  rintro e w17 hpost
  rw [HO.out] at hpost
  obtain ⟨rfl, hb⟩ := hpost.not
  clear hpost
  have he17 : Eff 0 0 w16 w17 := Eff.of hb
  have hz17 : w16.heap.size ≤ w17.heap.size := he17.size
  have b17 : Below W.heap.size W w17 := b16.trans (he17.below b16.size (by omega))
  replace hr := (hr.below (he17.below (B := W.heap.size) (by omega) (by omega)) (Nat.le_refl _))
  replace res_f0 := (he17.frozen res_0 (by simp only; omega)).trans res_f0
  replace res_f1 := (he17.frozen res_1 (by simp only; omega)).trans res_f1
  replace res_f2 := (he17.frozen res_2 (by simp only; omega)).trans res_f2
  replace res_f3 := (he17.frozen res_3 (by simp only; omega)).trans res_f3
  replace res_f4 := (he17.frozen res_4 (by simp only; omega)).trans res_f4
  replace res_f5 := (he17.frozen res_5 (by simp only; omega)).trans res_f5
  replace res_f6 := (he17.frozen res_6 (by simp only; omega)).trans res_f6
  replace s_f0 := (he17.frozen s_0 (by simp only; omega)).trans s_f0
  replace s_f1 := (he17.frozen s_1 (by simp only; omega)).trans s_f1
  replace s_f2 := (he17.frozen s_2 (by simp only; omega)).trans s_f2
  replace s_f3 := (he17.frozen s_3 (by simp only; omega)).trans s_f3
  replace s_f4 := (he17.frozen s_4 (by simp only; omega)).trans s_f4
  replace s_f5 := (he17.frozen s_5 (by simp only; omega)).trans s_f5
  replace s_f6 := (he17.frozen s_6 (by simp only; omega)).trans s_f6
  replace res_0 := he17.cell res_0 (by simp only; omega)
  replace res_1 := he17.cell res_1 (by simp only; omega)
  replace res_2 := he17.cell res_2 (by simp only; omega)
  replace res_3 := he17.cell res_3 (by simp only; omega)
  replace res_4 := he17.cell res_4 (by simp only; omega)
  replace res_5 := he17.cell res_5 (by simp only; omega)
  replace res_6 := he17.cell res_6 (by simp only; omega)
  replace s_0 := he17.cell s_0 (by simp only; omega)
  replace s_1 := he17.cell s_1 (by simp only; omega)
  replace s_2 := he17.cell s_2 (by simp only; omega)
  replace s_3 := he17.cell s_3 (by simp only; omega)
  replace s_4 := he17.cell s_4 (by simp only; omega)
  replace s_5 := he17.cell s_5 (by simp only; omega)
  replace s_6 := he17.cell s_6 (by simp only; omega)
  replace res_l := Nat.lt_of_lt_of_le res_l hz17
  replace s_l := Nat.lt_of_lt_of_le s_l hz17
  clear hb
  go_wp2
  refine bodyPost_ret (v := .tuple #[.agg #[.int .i64 0, .int .i64 0, .int .i64 0, .int .i64 0, .int .i64 0, .int .i64 0, .bool false], .bool false]) (by simp [results, Try.results50, go_sem, *]) rfl ?_
  exact EvR.no HG.out (below_set7 b17)
set_option maxHeartbeats 4000000 in
set_option maxRecDepth 100000 in
theorem spec_BodyEvent_other (A : Option Addr) (n c : Nat) (l : List UInt8) (v0 : Int) (t0 : Bool) (v1 : Int) (t1 : Bool) (v2 : Int) (t2 : Bool) (v3 : Int) (t3 : Bool) (v4 : Int) (t4 : Bool) (v5 : Int) (t5 : Bool) (v6 : Int) (t6 : Bool) (H0 : Hid (getNum l 1 1 = (v0, t0))) (H1 : Hid (getNum l 2 3 = (v1, t1))) (H2 : Hid (getNum l 5 1 = (v2, t2))) (H3 : Hid (getNum l 6 1 = (v3, t3))) (H4 : Hid (getNum l 7 7 = (v4, t4))) (H5 : Hid (getNum l 14 7 = (v5, t5))) (H6 : Hid (getNum l 21 1 = (v6, t6))) (hn : n ≤ 1099511627776) (HO : Hid (evOk v0 v1 v2 v3 v4 v5 (v6 == 1) = true)) (HQ : Hid (evBytes v0.toNat v1.toNat v2.toNat v3.toNat v4.toNat v5.toNat (v6 == 1) ≠ l)) (HG : Hid (evGood l = false)) (W : World) (hr : Rd W W.heap.size 1 A n (Lib.byteCells l)) : Calls Try.prog 50 #[.slice A n c] W (EvR l W) := by
  go_enter Try.func50, Try.ntmps50
  go_wp2_with fail
  have he1 : Eff 0 0 W (W.alloc (.cells #[.int .i64 0, .int .i64 0, .int .i64 0, .int .i64 0, .int .i64 0, .int .i64 0, .bool false] 42)) := Eff.alloc _ _
  have hs1 : (W.alloc (.cells #[.int .i64 0, .int .i64 0, .int .i64 0, .int .i64 0, .int .i64 0, .int .i64 0, .bool false] 42)).heap.size = W.heap.size + 1 := (by simp)
  have res_0 : (W.alloc (.cells #[.int .i64 0, .int .i64 0, .int .i64 0, .int .i64 0, .int .i64 0, .int .i64 0, .bool false] 42)).cell? ⟨W.heap.size, 0, none⟩ = some (.int .i64 0) := var_cell _ _ _ _ _ rfl
  have res_1 : (W.alloc (.cells #[.int .i64 0, .int .i64 0, .int .i64 0, .int .i64 0, .int .i64 0, .int .i64 0, .bool false] 42)).cell? ⟨W.heap.size, 1, none⟩ = some (.int .i64 0) := var_cell _ _ _ _ _ rfl
  have res_2 : (W.alloc (.cells #[.int .i64 0, .int .i64 0, .int .i64 0, .int .i64 0, .int .i64 0, .int .i64 0, .bool false] 42)).cell? ⟨W.heap.size, 2, none⟩ = some (.int .i64 0) := var_cell _ _ _ _ _ rfl
  have res_3 : (W.alloc (.cells #[.int .i64 0, .int .i64 0, .int .i64 0, .int .i64 0, .int .i64 0, .int .i64 0, .bool false] 42)).cell? ⟨W.heap.size, 3, none⟩ = some (.int .i64 0) := var_cell _ _ _ _ _ rfl
  have res_4 : (W.alloc (.cells #[.int .i64 0, .int .i64 0, .int .i64 0, .int .i64 0, .int .i64 0, .int .i64 0, .bool false] 42)).cell? ⟨W.heap.size, 4, none⟩ = some (.int .i64 0) := var_cell _ _ _ _ _ rfl
  have res_5 : (W.alloc (.cells #[.int .i64 0, .int .i64 0, .int .i64 0, .int .i64 0, .int .i64 0, .int .i64 0, .bool false] 42)).cell? ⟨W.heap.size, 5, none⟩ = some (.int .i64 0) := var_cell _ _ _ _ _ rfl
  have res_6 : (W.alloc (.cells #[.int .i64 0, .int .i64 0, .int .i64 0, .int .i64 0, .int .i64 0, .int .i64 0, .bool false] 42)).cell? ⟨W.heap.size, 6, none⟩ = some (.bool false) := var_cell _ _ _ _ _ rfl
  have res_f0 : (W.alloc (.cells #[.int .i64 0, .int .i64 0, .int .i64 0, .int .i64 0, .int .i64 0, .int .i64 0, .bool false] 42)).frozen? ⟨W.heap.size, 0, none⟩ = false := var_frozen _ _ _ _
  have res_f1 : (W.alloc (.cells #[.int .i64 0, .int .i64 0, .int .i64 0, .int .i64 0, .int .i64 0, .int .i64 0, .bool false] 42)).frozen? ⟨W.heap.size, 1, none⟩ = false := var_frozen _ _ _ _
  have res_f2 : (W.alloc (.cells #[.int .i64 0, .int .i64 0, .int .i64 0, .int .i64 0, .int .i64 0, .int .i64 0, .bool false] 42)).frozen? ⟨W.heap.size, 2, none⟩ = false := var_frozen _ _ _ _
  have res_f3 : (W.alloc (.cells #[.int .i64 0, .int .i64 0, .int .i64 0, .int .i64 0, .int .i64 0, .int .i64 0, .bool false] 42)).frozen? ⟨W.heap.size, 3, none⟩ = false := var_frozen _ _ _ _
  have res_f4 : (W.alloc (.cells #[.int .i64 0, .int .i64 0, .int .i64 0, .int .i64 0, .int .i64 0, .int .i64 0, .bool false] 42)).frozen? ⟨W.heap.size, 4, none⟩ = false := var_frozen _ _ _ _
  have res_f5 : (W.alloc (.cells #[.int .i64 0, .int .i64 0, .int .i64 0, .int .i64 0, .int .i64 0, .int .i64 0, .bool false] 42)).frozen? ⟨W.heap.size, 5, none⟩ = false := var_frozen _ _ _ _
  have res_f6 : (W.alloc (.cells #[.int .i64 0, .int .i64 0, .int .i64 0, .int .i64 0, .int .i64 0, .int .i64 0, .bool false] 42)).frozen? ⟨W.heap.size, 6, none⟩ = false := var_frozen _ _ _ _
  generalize (W.alloc (.cells #[.int .i64 0, .int .i64 0, .int .i64 0, .int .i64 0, .int .i64 0, .int .i64 0, .bool false] 42)) = w1 at *
  have hz1 : W.heap.size ≤ w1.heap.size := he1.size
  have b1 : Below W.heap.size W w1 := he1.below (Nat.le_refl _) (by omega)
  replace hr := (hr.below (he1.below (B := W.heap.size) (by omega) (by omega)) (Nat.le_refl _))
  have res_l : W.heap.size < w1.heap.size := (by omega)
  have he2 : Eff 0 0 w1 (w1.alloc (.cells #[.int .i64 0, .int .i64 0, .int .i64 0, .int .i64 0, .int .i64 0, .int .i64 0, .bool false] 42)) := Eff.alloc _ _
  have hs2 : (w1.alloc (.cells #[.int .i64 0, .int .i64 0, .int .i64 0, .int .i64 0, .int .i64 0, .int .i64 0, .bool false] 42)).heap.size = w1.heap.size + 1 := (by simp)
  have s_0 : (w1.alloc (.cells #[.int .i64 0, .int .i64 0, .int .i64 0, .int .i64 0, .int .i64 0, .int .i64 0, .bool false] 42)).cell? ⟨w1.heap.size, 0, none⟩ = some (.int .i64 0) := var_cell _ _ _ _ _ rfl
  have s_1 : (w1.alloc (.cells #[.int .i64 0, .int .i64 0, .int .i64 0, .int .i64 0, .int .i64 0, .int .i64 0, .bool false] 42)).cell? ⟨w1.heap.size, 1, none⟩ = some (.int .i64 0) := var_cell _ _ _ _ _ rfl
  have s_2 : (w1.alloc (.cells #[.int .i64 0, .int .i64 0, .int .i64 0, .int .i64 0, .int .i64 0, .int .i64 0, .bool false] 42)).cell? ⟨w1.heap.size, 2, none⟩ = some (.int .i64 0) := var_cell _ _ _ _ _ rfl
  have s_3 : (w1.alloc (.cells #[.int .i64 0, .int .i64 0, .int .i64 0, .int .i64 0, .int .i64 0, .int .i64 0, .bool false] 42)).cell? ⟨w1.heap.size, 3, none⟩ = some (.int .i64 0) := var_cell _ _ _ _ _ rfl
  have s_4 : (w1.alloc (.cells #[.int .i64 0, .int .i64 0, .int .i64 0, .int .i64 0, .int .i64 0, .int .i64 0, .bool false] 42)).cell? ⟨w1.heap.size, 4, none⟩ = some (.int .i64 0) := var_cell _ _ _ _ _ rfl
  have s_5 : (w1.alloc (.cells #[.int .i64 0, .int .i64 0, .int .i64 0, .int .i64 0, .int .i64 0, .int .i64 0, .bool false] 42)).cell? ⟨w1.heap.size, 5, none⟩ = some (.int .i64 0) := var_cell _ _ _ _ _ rfl
  have s_6 : (w1.alloc (.cells #[.int .i64 0, .int .i64 0, .int .i64 0, .int .i64 0, .int .i64 0, .int .i64 0, .bool false] 42)).cell? ⟨w1.heap.size, 6, none⟩ = some (.bool false) := var_cell _ _ _ _ _ rfl
  have s_f0 : (w1.alloc (.cells #[.int .i64 0, .int .i64 0, .int .i64 0, .int .i64 0, .int .i64 0, .int .i64 0, .bool false] 42)).frozen? ⟨w1.heap.size, 0, none⟩ = false := var_frozen _ _ _ _
  have s_f1 : (w1.alloc (.cells #[.int .i64 0, .int .i64 0, .int .i64 0, .int .i64 0, .int .i64 0, .int .i64 0, .bool false] 42)).frozen? ⟨w1.heap.size, 1, none⟩ = false := var_frozen _ _ _ _
  have s_f2 : (w1.alloc (.cells #[.int .i64 0, .int .i64 0, .int .i64 0, .int .i64 0, .int .i64 0, .int .i64 0, .bool false] 42)).frozen? ⟨w1.heap.size, 2, none⟩ = false := var_frozen _ _ _ _
  have s_f3 : (w1.alloc (.cells #[.int .i64 0, .int .i64 0, .int .i64 0, .int .i64 0, .int .i64 0, .int .i64 0, .bool false] 42)).frozen? ⟨w1.heap.size, 3, none⟩ = false := var_frozen _ _ _ _
  have s_f4 : (w1.alloc (.cells #[.int .i64 0, .int .i64 0, .int .i64 0, .int .i64 0, .int .i64 0, .int .i64 0, .bool false] 42)).frozen? ⟨w1.heap.size, 4, none⟩ = false := var_frozen _ _ _ _
  have s_f5 : (w1.alloc (.cells #[.int .i64 0, .int .i64 0, .int .i64 0, .int .i64 0, .int .i64 0, .int .i64 0, .bool false] 42)).frozen? ⟨w1.heap.size, 5, none⟩ = false := var_frozen _ _ _ _
  have s_f6 : (w1.alloc (.cells #[.int .i64 0, .int .i64 0, .int .i64 0, .int .i64 0, .int .i64 0, .int .i64 0, .bool false] 42)).frozen? ⟨w1.heap.size, 6, none⟩ = false := var_frozen _ _ _ _
  generalize (w1.alloc (.cells #[.int .i64 0, .int .i64 0, .int .i64 0, .int .i64 0, .int .i64 0, .int .i64 0, .bool false] 42)) = w2 at *
  have hz2 : w1.heap.size ≤ w2.heap.size := he2.size
  have b2 : Below W.heap.size W w2 := b1.trans (he2.below b1.size (by omega))
  replace hr := (hr.below (he2.below (B := W.heap.size) (by omega) (by omega)) (Nat.le_refl _))
  replace res_f0 := (he2.frozen res_0 (by simp only; omega)).trans res_f0
  replace res_f1 := (he2.frozen res_1 (by simp only; omega)).trans res_f1
  replace res_f2 := (he2.frozen res_2 (by simp only; omega)).trans res_f2
  replace res_f3 := (he2.frozen res_3 (by simp only; omega)).trans res_f3
  replace res_f4 := (he2.frozen res_4 (by simp only; omega)).trans res_f4
  replace res_f5 := (he2.frozen res_5 (by simp only; omega)).trans res_f5
  replace res_f6 := (he2.frozen res_6 (by simp only; omega)).trans res_f6
  replace res_0 := he2.cell res_0 (by simp only; omega)
  replace res_1 := he2.cell res_1 (by simp only; omega)
  replace res_2 := he2.cell res_2 (by simp only; omega)
  replace res_3 := he2.cell res_3 (by simp only; omega)
  replace res_4 := he2.cell res_4 (by simp only; omega)
  replace res_5 := he2.cell res_5 (by simp only; omega)
  replace res_6 := he2.cell res_6 (by simp only; omega)
  replace res_l := Nat.lt_of_lt_of_le res_l hz2
  rw [hs1] at s_0 s_f0
  rw [hs1] at s_1 s_f1
  rw [hs1] at s_2 s_f2
  rw [hs1] at s_3 s_f3
  rw [hs1] at s_4 s_f4
  rw [hs1] at s_5 s_f5
  rw [hs1] at s_6 s_f6
  have s_l : W.heap.size + 1 < w2.heap.size := (by omega)
  refine (spec_GetNum _ n _ l 1 1 (by omega) w2 (hr.more (by omega))).mono ?_
  rintro e w3 ⟨rfl, hb⟩
  have he3 : Eff 0 0 w2 w3 := Eff.of hb
  have hz3 : w2.heap.size ≤ w3.heap.size := he3.size
  have b3 : Below W.heap.size W w3 := b2.trans (he3.below b2.size (by omega))
  replace hr := (hr.below (he3.below (B := W.heap.size) (by omega) (by omega)) (Nat.le_refl _))
  replace res_f0 := (he3.frozen res_0 (by simp only; omega)).trans res_f0
  replace res_f1 := (he3.frozen res_1 (by simp only; omega)).trans res_f1
  replace res_f2 := (he3.frozen res_2 (by simp only; omega)).trans res_f2
  replace res_f3 := (he3.frozen res_3 (by simp only; omega)).trans res_f3
  replace res_f4 := (he3.frozen res_4 (by simp only; omega)).trans res_f4
  replace res_f5 := (he3.frozen res_5 (by simp only; omega)).trans res_f5
  replace res_f6 := (he3.frozen res_6 (by simp only; omega)).trans res_f6
  replace s_f0 := (he3.frozen s_0 (by simp only; omega)).trans s_f0
  replace s_f1 := (he3.frozen s_1 (by simp only; omega)).trans s_f1
  replace s_f2 := (he3.frozen s_2 (by simp only; omega)).trans s_f2
  replace s_f3 := (he3.frozen s_3 (by simp only; omega)).trans s_f3
  replace s_f4 := (he3.frozen s_4 (by simp only; omega)).trans s_f4
  replace s_f5 := (he3.frozen s_5 (by simp only; omega)).trans s_f5
  replace s_f6 := (he3.frozen s_6 (by simp only; omega)).trans s_f6
  replace res_0 := he3.cell res_0 (by simp only; omega)
  replace res_1 := he3.cell res_1 (by simp only; omega)
  replace res_2 := he3.cell res_2 (by simp only; omega)
  replace res_3 := he3.cell res_3 (by simp only; omega)
  replace res_4 := he3.cell res_4 (by simp only; omega)
  replace res_5 := he3.cell res_5 (by simp only; omega)
  replace res_6 := he3.cell res_6 (by simp only; omega)
  replace s_0 := he3.cell s_0 (by simp only; omega)
  replace s_1 := he3.cell s_1 (by simp only; omega)
  replace s_2 := he3.cell s_2 (by simp only; omega)
  replace s_3 := he3.cell s_3 (by simp only; omega)
  replace s_4 := he3.cell s_4 (by simp only; omega)
  replace s_5 := he3.cell s_5 (by simp only; omega)
  replace s_6 := he3.cell s_6 (by simp only; omega)
  replace res_l := Nat.lt_of_lt_of_le res_l hz3
  replace s_l := Nat.lt_of_lt_of_le s_l hz3
  clear hb
  rw [H0.out]
  go_wp2_with fail
  have he4 : Eff (W.heap.size + 1) (W.heap.size + 1 + 1) w3 (w3.setCell ⟨W.heap.size + 1, 0, none⟩ (.int .i64 v0)) := eff_set _ _ _ _
  replace res_f0 := (he4.frozen res_0 (by simp only; omega)).trans res_f0
  replace res_f1 := (he4.frozen res_1 (by simp only; omega)).trans res_f1
  replace res_f2 := (he4.frozen res_2 (by simp only; omega)).trans res_f2
  replace res_f3 := (he4.frozen res_3 (by simp only; omega)).trans res_f3
  replace res_f4 := (he4.frozen res_4 (by simp only; omega)).trans res_f4
  replace res_f5 := (he4.frozen res_5 (by simp only; omega)).trans res_f5
  replace res_f6 := (he4.frozen res_6 (by simp only; omega)).trans res_f6
  replace s_f0 := set_frozen (p := ⟨W.heap.size + 1, 0, none⟩) s_f0 (.int .i64 v0)
  replace s_f1 := set_frozen (p := ⟨W.heap.size + 1, 0, none⟩) s_f1 (.int .i64 v0)
  replace s_f2 := set_frozen (p := ⟨W.heap.size + 1, 0, none⟩) s_f2 (.int .i64 v0)
  replace s_f3 := set_frozen (p := ⟨W.heap.size + 1, 0, none⟩) s_f3 (.int .i64 v0)
  replace s_f4 := set_frozen (p := ⟨W.heap.size + 1, 0, none⟩) s_f4 (.int .i64 v0)
  replace s_f5 := set_frozen (p := ⟨W.heap.size + 1, 0, none⟩) s_f5 (.int .i64 v0)
  replace s_f6 := set_frozen (p := ⟨W.heap.size + 1, 0, none⟩) s_f6 (.int .i64 v0)
  replace res_0 := he4.cell res_0 (by simp only; omega)
  replace res_1 := he4.cell res_1 (by simp only; omega)
  replace res_2 := he4.cell res_2 (by simp only; omega)
  replace res_3 := he4.cell res_3 (by simp only; omega)
  replace res_4 := he4.cell res_4 (by simp only; omega)
  replace res_5 := he4.cell res_5 (by simp only; omega)
  replace res_6 := he4.cell res_6 (by simp only; omega)
  replace s_0 := set_same s_0 (.int .i64 v0)
  replace s_1 := set_other (b' := W.heap.size + 1) (o' := 0) s_1 (.int .i64 v0) (.inr (by omega))
  replace s_2 := set_other (b' := W.heap.size + 1) (o' := 0) s_2 (.int .i64 v0) (.inr (by omega))
  replace s_3 := set_other (b' := W.heap.size + 1) (o' := 0) s_3 (.int .i64 v0) (.inr (by omega))
  replace s_4 := set_other (b' := W.heap.size + 1) (o' := 0) s_4 (.int .i64 v0) (.inr (by omega))
  replace s_5 := set_other (b' := W.heap.size + 1) (o' := 0) s_5 (.int .i64 v0) (.inr (by omega))
  replace s_6 := set_other (b' := W.heap.size + 1) (o' := 0) s_6 (.int .i64 v0) (.inr (by omega))
  have hz4 : w3.heap.size ≤ (w3.setCell ⟨W.heap.size + 1, 0, none⟩ (.int .i64 v0)).heap.size := he4.size
  generalize (w3.setCell ⟨W.heap.size + 1, 0, none⟩ (.int .i64 v0)) = w4 at *
  have b4 : Below W.heap.size W w4 := b3.trans (he4.below b3.size (by omega))
  replace hr := (hr.below (he4.below (B := W.heap.size) (by omega) (by omega)) (Nat.le_refl _))
  replace res_l := Nat.lt_of_lt_of_le res_l hz4
  replace s_l := Nat.lt_of_lt_of_le s_l hz4
  refine (spec_GetNum _ n _ l 2 3 (by omega) w4 (hr.more (by omega))).mono ?_
  rintro e w5 ⟨rfl, hb⟩
  have he5 : Eff 0 0 w4 w5 := Eff.of hb
  have hz5 : w4.heap.size ≤ w5.heap.size := he5.size
  have b5 : Below W.heap.size W w5 := b4.trans (he5.below b4.size (by omega))
  replace hr := (hr.below (he5.below (B := W.heap.size) (by omega) (by omega)) (Nat.le_refl _))
  replace res_f0 := (he5.frozen res_0 (by simp only; omega)).trans res_f0
  replace res_f1 := (he5.frozen res_1 (by simp only; omega)).trans res_f1
  replace res_f2 := (he5.frozen res_2 (by simp only; omega)).trans res_f2
  replace res_f3 := (he5.frozen res_3 (by simp only; omega)).trans res_f3
  replace res_f4 := (he5.frozen res_4 (by simp only; omega)).trans res_f4
  replace res_f5 := (he5.frozen res_5 (by simp only; omega)).trans res_f5
  replace res_f6 := (he5.frozen res_6 (by simp only; omega)).trans res_f6
  replace s_f0 := (he5.frozen s_0 (by simp only; omega)).trans s_f0
  replace s_f1 := (he5.frozen s_1 (by simp only; omega)).trans s_f1
  replace s_f2 := (he5.frozen s_2 (by simp only; omega)).trans s_f2
  replace s_f3 := (he5.frozen s_3 (by simp only; omega)).trans s_f3
  replace s_f4 := (he5.frozen s_4 (by simp only; omega)).trans s_f4
  replace s_f5 := (he5.frozen s_5 (by simp only; omega)).trans s_f5
  replace s_f6 := (he5.frozen s_6 (by simp only; omega)).trans s_f6
  replace res_0 := he5.cell res_0 (by simp only; omega)
  replace res_1 := he5.cell res_1 (by simp only; omega)
  replace res_2 := he5.cell res_2 (by simp only; omega)
  replace res_3 := he5.cell res_3 (by simp only; omega)
  replace res_4 := he5.cell res_4 (by simp only; omega)
  replace res_5 := he5.cell res_5 (by simp only; omega)
  replace res_6 := he5.cell res_6 (by simp only; omega)
  replace s_0 := he5.cell s_0 (by simp only; omega)
  replace s_1 := he5.cell s_1 (by simp only; omega)
  replace s_2 := he5.cell s_2 (by simp only; omega)
  replace s_3 := he5.cell s_3 (by simp only; omega)
  replace s_4 := he5.cell s_4 (by simp only; omega)
  replace s_5 := he5.cell s_5 (by simp only; omega)
  replace s_6 := he5.cell s_6 (by simp only; omega)
  replace res_l := Nat.lt_of_lt_of_le res_l hz5
  replace s_l := Nat.lt_of_lt_of_le s_l hz5
  clear hb
  rw [H1.out]
  go_wp2_with fail
  have he6 : Eff (W.heap.size + 1) (W.heap.size + 1 + 1) w5 (w5.setCell ⟨W.heap.size + 1, 1, none⟩ (.int .i64 v1)) := eff_set _ _ _ _
  replace res_f0 := (he6.frozen res_0 (by simp only; omega)).trans res_f0
  replace res_f1 := (he6.frozen res_1 (by simp only; omega)).trans res_f1
  replace res_f2 := (he6.frozen res_2 (by simp only; omega)).trans res_f2
  replace res_f3 := (he6.frozen res_3 (by simp only; omega)).trans res_f3
  replace res_f4 := (he6.frozen res_4 (by simp only; omega)).trans res_f4
  replace res_f5 := (he6.frozen res_5 (by simp only; omega)).trans res_f5
  replace res_f6 := (he6.frozen res_6 (by simp only; omega)).trans res_f6
  replace s_f0 := set_frozen (p := ⟨W.heap.size + 1, 1, none⟩) s_f0 (.int .i64 v1)
  replace s_f1 := set_frozen (p := ⟨W.heap.size + 1, 1, none⟩) s_f1 (.int .i64 v1)
  replace s_f2 := set_frozen (p := ⟨W.heap.size + 1, 1, none⟩) s_f2 (.int .i64 v1)
  replace s_f3 := set_frozen (p := ⟨W.heap.size + 1, 1, none⟩) s_f3 (.int .i64 v1)
  replace s_f4 := set_frozen (p := ⟨W.heap.size + 1, 1, none⟩) s_f4 (.int .i64 v1)
  replace s_f5 := set_frozen (p := ⟨W.heap.size + 1, 1, none⟩) s_f5 (.int .i64 v1)
  replace s_f6 := set_frozen (p := ⟨W.heap.size + 1, 1, none⟩) s_f6 (.int .i64 v1)
  replace res_0 := he6.cell res_0 (by simp only; omega)
  replace res_1 := he6.cell res_1 (by simp only; omega)
  replace res_2 := he6.cell res_2 (by simp only; omega)
  replace res_3 := he6.cell res_3 (by simp only; omega)
  replace res_4 := he6.cell res_4 (by simp only; omega)
  replace res_5 := he6.cell res_5 (by simp only; omega)
  replace res_6 := he6.cell res_6 (by simp only; omega)
  replace s_0 := set_other (b' := W.heap.size + 1) (o' := 1) s_0 (.int .i64 v1) (.inr (by omega))
  replace s_1 := set_same s_1 (.int .i64 v1)
  replace s_2 := set_other (b' := W.heap.size + 1) (o' := 1) s_2 (.int .i64 v1) (.inr (by omega))
  replace s_3 := set_other (b' := W.heap.size + 1) (o' := 1) s_3 (.int .i64 v1) (.inr (by omega))
  replace s_4 := set_other (b' := W.heap.size + 1) (o' := 1) s_4 (.int .i64 v1) (.inr (by omega))
  replace s_5 := set_other (b' := W.heap.size + 1) (o' := 1) s_5 (.int .i64 v1) (.inr (by omega))
  replace s_6 := set_other (b' := W.heap.size + 1) (o' := 1) s_6 (.int .i64 v1) (.inr (by omega))
  have hz6 : w5.heap.size ≤ (w5.setCell ⟨W.heap.size + 1, 1, none⟩ (.int .i64 v1)).heap.size := he6.size
  generalize (w5.setCell ⟨W.heap.size + 1, 1, none⟩ (.int .i64 v1)) = w6 at *
  have b6 : Below W.heap.size W w6 := b5.trans (he6.below b5.size (by omega))
  replace hr := (hr.below (he6.below (B := W.heap.size) (by omega) (by omega)) (Nat.le_refl _))
  replace res_l := Nat.lt_of_lt_of_le res_l hz6
  replace s_l := Nat.lt_of_lt_of_le s_l hz6
  refine (spec_GetNum _ n _ l 5 1 (by omega) w6 (hr.more (by omega))).mono ?_
  rintro e w7 ⟨rfl, hb⟩
  have he7 : Eff 0 0 w6 w7 := Eff.of hb
  have hz7 : w6.heap.size ≤ w7.heap.size := he7.size
  have b7 : Below W.heap.size W w7 := b6.trans (he7.below b6.size (by omega))
  replace hr := (hr.below (he7.below (B := W.heap.size) (by omega) (by omega)) (Nat.le_refl _))
  replace res_f0 := (he7.frozen res_0 (by simp only; omega)).trans res_f0
  replace res_f1 := (he7.frozen res_1 (by simp only; omega)).trans res_f1
  replace res_f2 := (he7.frozen res_2 (by simp only; omega)).trans res_f2
  replace res_f3 := (he7.frozen res_3 (by simp only; omega)).trans res_f3
  replace res_f4 := (he7.frozen res_4 (by simp only; omega)).trans res_f4
  replace res_f5 := (he7.frozen res_5 (by simp only; omega)).trans res_f5
  replace res_f6 := (he7.frozen res_6 (by simp only; omega)).trans res_f6
  replace s_f0 := (he7.frozen s_0 (by simp only; omega)).trans s_f0
  replace s_f1 := (he7.frozen s_1 (by simp only; omega)).trans s_f1
  replace s_f2 := (he7.frozen s_2 (by simp only; omega)).trans s_f2
  replace s_f3 := (he7.frozen s_3 (by simp only; omega)).trans s_f3
  replace s_f4 := (he7.frozen s_4 (by simp only; omega)).trans s_f4
  replace s_f5 := (he7.frozen s_5 (by simp only; omega)).trans s_f5
  replace s_f6 := (he7.frozen s_6 (by simp only; omega)).trans s_f6
  replace res_0 := he7.cell res_0 (by simp only; omega)
  replace res_1 := he7.cell res_1 (by simp only; omega)
  replace res_2 := he7.cell res_2 (by simp only; omega)
  replace res_3 := he7.cell res_3 (by simp only; omega)
  replace res_4 := he7.cell res_4 (by simp only; omega)
  replace res_5 := he7.cell res_5 (by simp only; omega)
  replace res_6 := he7.cell res_6 (by simp only; omega)
  replace s_0 := he7.cell s_0 (by simp only; omega)
  replace s_1 := he7.cell s_1 (by simp only; omega)
  replace s_2 := he7.cell s_2 (by simp only; omega)
  replace s_3 := he7.cell s_3 (by simp only; omega)
  replace s_4 := he7.cell s_4 (by simp only; omega)
  replace s_5 := he7.cell s_5 (by simp only; omega)
  replace s_6 := he7.cell s_6 (by simp only; omega)
  replace res_l := Nat.lt_of_lt_of_le res_l hz7
  replace s_l := Nat.lt_of_lt_of_le s_l hz7
  clear hb
  rw [H2.out]
  go_wp2_with fail
  have he8 : Eff (W.heap.size + 1) (W.heap.size + 1 + 1) w7 (w7.setCell ⟨W.heap.size + 1, 2, none⟩ (.int .i64 v2)) := eff_set _ _ _ _
  replace res_f0 := (he8.frozen res_0 (by simp only; omega)).trans res_f0
  replace res_f1 := (he8.frozen res_1 (by simp only; omega)).trans res_f1
  replace res_f2 := (he8.frozen res_2 (by simp only; omega)).trans res_f2
  replace res_f3 := (he8.frozen res_3 (by simp only; omega)).trans res_f3
  replace res_f4 := (he8.frozen res_4 (by simp only; omega)).trans res_f4
  replace res_f5 := (he8.frozen res_5 (by simp only; omega)).trans res_f5
  replace res_f6 := (he8.frozen res_6 (by simp only; omega)).trans res_f6
  replace s_f0 := set_frozen (p := ⟨W.heap.size + 1, 2, none⟩) s_f0 (.int .i64 v2)
  replace s_f1 := set_frozen (p := ⟨W.heap.size + 1, 2, none⟩) s_f1 (.int .i64 v2)
  replace s_f2 := set_frozen (p := ⟨W.heap.size + 1, 2, none⟩) s_f2 (.int .i64 v2)
  replace s_f3 := set_frozen (p := ⟨W.heap.size + 1, 2, none⟩) s_f3 (.int .i64 v2)
  replace s_f4 := set_frozen (p := ⟨W.heap.size + 1, 2, none⟩) s_f4 (.int .i64 v2)
  replace s_f5 := set_frozen (p := ⟨W.heap.size + 1, 2, none⟩) s_f5 (.int .i64 v2)
  replace s_f6 := set_frozen (p := ⟨W.heap.size + 1, 2, none⟩) s_f6 (.int .i64 v2)
  replace res_0 := he8.cell res_0 (by simp only; omega)
  replace res_1 := he8.cell res_1 (by simp only; omega)
  replace res_2 := he8.cell res_2 (by simp only; omega)
  replace res_3 := he8.cell res_3 (by simp only; omega)
  replace res_4 := he8.cell res_4 (by simp only; omega)
  replace res_5 := he8.cell res_5 (by simp only; omega)
  replace res_6 := he8.cell res_6 (by simp only; omega)
  replace s_0 := set_other (b' := W.heap.size + 1) (o' := 2) s_0 (.int .i64 v2) (.inr (by omega))
  replace s_1 := set_other (b' := W.heap.size + 1) (o' := 2) s_1 (.int .i64 v2) (.inr (by omega))
  replace s_2 := set_same s_2 (.int .i64 v2)
  replace s_3 := set_other (b' := W.heap.size + 1) (o' := 2) s_3 (.int .i64 v2) (.inr (by omega))
  replace s_4 := set_other (b' := W.heap.size + 1) (o' := 2) s_4 (.int .i64 v2) (.inr (by omega))
  replace s_5 := set_other (b' := W.heap.size + 1) (o' := 2) s_5 (.int .i64 v2) (.inr (by omega))
  replace s_6 := set_other (b' := W.heap.size + 1) (o' := 2) s_6 (.int .i64 v2) (.inr (by omega))
  have hz8 : w7.heap.size ≤ (w7.setCell ⟨W.heap.size + 1, 2, none⟩ (.int .i64 v2)).heap.size := he8.size
  generalize (w7.setCell ⟨W.heap.size + 1, 2, none⟩ (.int .i64 v2)) = w8 at *
  have b8 : Below W.heap.size W w8 := b7.trans (he8.below b7.size (by omega))
  replace hr := (hr.below (he8.below (B := W.heap.size) (by omega) (by omega)) (Nat.le_refl _))
  replace res_l := Nat.lt_of_lt_of_le res_l hz8
  replace s_l := Nat.lt_of_lt_of_le s_l hz8
  refine (spec_GetNum _ n _ l 6 1 (by omega) w8 (hr.more (by omega))).mono ?_
  rintro e w9 ⟨rfl, hb⟩
  have he9 : Eff 0 0 w8 w9 := Eff.of hb
  have hz9 : w8.heap.size ≤ w9.heap.size := he9.size
  have b9 : Below W.heap.size W w9 := b8.trans (he9.below b8.size (by omega))
  replace hr := (hr.below (he9.below (B := W.heap.size) (by omega) (by omega)) (Nat.le_refl _))
  replace res_f0 := (he9.frozen res_0 (by simp only; omega)).trans res_f0
  replace res_f1 := (he9.frozen res_1 (by simp only; omega)).trans res_f1
  replace res_f2 := (he9.frozen res_2 (by simp only; omega)).trans res_f2
  replace res_f3 := (he9.frozen res_3 (by simp only; omega)).trans res_f3
  replace res_f4 := (he9.frozen res_4 (by simp only; omega)).trans res_f4
  replace res_f5 := (he9.frozen res_5 (by simp only; omega)).trans res_f5
  replace res_f6 := (he9.frozen res_6 (by simp only; omega)).trans res_f6
  replace s_f0 := (he9.frozen s_0 (by simp only; omega)).trans s_f0
  replace s_f1 := (he9.frozen s_1 (by simp only; omega)).trans s_f1
  replace s_f2 := (he9.frozen s_2 (by simp only; omega)).trans s_f2
  replace s_f3 := (he9.frozen s_3 (by simp only; omega)).trans s_f3
  replace s_f4 := (he9.frozen s_4 (by simp only; omega)).trans s_f4
  replace s_f5 := (he9.frozen s_5 (by simp only; omega)).trans s_f5
  replace s_f6 := (he9.frozen s_6 (by simp only; omega)).trans s_f6
  replace res_0 := he9.cell res_0 (by simp only; omega)
  replace res_1 := he9.cell res_1 (by simp only; omega)
  replace res_2 := he9.cell res_2 (by simp only; omega)
  replace res_3 := he9.cell res_3 (by simp only; omega)
  replace res_4 := he9.cell res_4 (by simp only; omega)
  replace res_5 := he9.cell res_5 (by simp only; omega)
  replace res_6 := he9.cell res_6 (by simp only; omega)
  replace s_0 := he9.cell s_0 (by simp only; omega)
  replace s_1 := he9.cell s_1 (by simp only; omega)
  replace s_2 := he9.cell s_2 (by simp only; omega)
  replace s_3 := he9.cell s_3 (by simp only; omega)
  replace s_4 := he9.cell s_4 (by simp only; omega)
  replace s_5 := he9.cell s_5 (by simp only; omega)
  replace s_6 := he9.cell s_6 (by simp only; omega)
  replace res_l := Nat.lt_of_lt_of_le res_l hz9
  replace s_l := Nat.lt_of_lt_of_le s_l hz9
  clear hb
  rw [H3.out]
  go_wp2_with fail
  have he10 : Eff (W.heap.size + 1) (W.heap.size + 1 + 1) w9 (w9.setCell ⟨W.heap.size + 1, 3, none⟩ (.int .i64 v3)) := eff_set _ _ _ _
  replace res_f0 := (he10.frozen res_0 (by simp only; omega)).trans res_f0
  replace res_f1 := (he10.frozen res_1 (by simp only; omega)).trans res_f1
  replace res_f2 := (he10.frozen res_2 (by simp only; omega)).trans res_f2
  replace res_f3 := (he10.frozen res_3 (by simp only; omega)).trans res_f3
  replace res_f4 := (he10.frozen res_4 (by simp only; omega)).trans res_f4
  replace res_f5 := (he10.frozen res_5 (by simp only; omega)).trans res_f5
  replace res_f6 := (he10.frozen res_6 (by simp only; omega)).trans res_f6
  replace s_f0 := set_frozen (p := ⟨W.heap.size + 1, 3, none⟩) s_f0 (.int .i64 v3)
  replace s_f1 := set_frozen (p := ⟨W.heap.size + 1, 3, none⟩) s_f1 (.int .i64 v3)
  replace s_f2 := set_frozen (p := ⟨W.heap.size + 1, 3, none⟩) s_f2 (.int .i64 v3)
  replace s_f3 := set_frozen (p := ⟨W.heap.size + 1, 3, none⟩) s_f3 (.int .i64 v3)
  replace s_f4 := set_frozen (p := ⟨W.heap.size + 1, 3, none⟩) s_f4 (.int .i64 v3)
  replace s_f5 := set_frozen (p := ⟨W.heap.size + 1, 3, none⟩) s_f5 (.int .i64 v3)
  replace s_f6 := set_frozen (p := ⟨W.heap.size + 1, 3, none⟩) s_f6 (.int .i64 v3)
  replace res_0 := he10.cell res_0 (by simp only; omega)
  replace res_1 := he10.cell res_1 (by simp only; omega)
  replace res_2 := he10.cell res_2 (by simp only; omega)
  replace res_3 := he10.cell res_3 (by simp only; omega)
  replace res_4 := he10.cell res_4 (by simp only; omega)
  replace res_5 := he10.cell res_5 (by simp only; omega)
  replace res_6 := he10.cell res_6 (by simp only; omega)
  replace s_0 := set_other (b' := W.heap.size + 1) (o' := 3) s_0 (.int .i64 v3) (.inr (by omega))
  replace s_1 := set_other (b' := W.heap.size + 1) (o' := 3) s_1 (.int .i64 v3) (.inr (by omega))
  replace s_2 := set_other (b' := W.heap.size + 1) (o' := 3) s_2 (.int .i64 v3) (.inr (by omega))
  replace s_3 := set_same s_3 (.int .i64 v3)
  replace s_4 := set_other (b' := W.heap.size + 1) (o' := 3) s_4 (.int .i64 v3) (.inr (by omega))
  replace s_5 := set_other (b' := W.heap.size + 1) (o' := 3) s_5 (.int .i64 v3) (.inr (by omega))
  replace s_6 := set_other (b' := W.heap.size + 1) (o' := 3) s_6 (.int .i64 v3) (.inr (by omega))
  have hz10 : w9.heap.size ≤ (w9.setCell ⟨W.heap.size + 1, 3, none⟩ (.int .i64 v3)).heap.size := he10.size
  generalize (w9.setCell ⟨W.heap.size + 1, 3, none⟩ (.int .i64 v3)) = w10 at *
  have b10 : Below W.heap.size W w10 := b9.trans (he10.below b9.size (by omega))
  replace hr := (hr.below (he10.below (B := W.heap.size) (by omega) (by omega)) (Nat.le_refl _))
  replace res_l := Nat.lt_of_lt_of_le res_l hz10
  replace s_l := Nat.lt_of_lt_of_le s_l hz10
  refine (spec_GetNum _ n _ l 7 7 (by omega) w10 (hr.more (by omega))).mono ?_
  rintro e w11 ⟨rfl, hb⟩
  have he11 : Eff 0 0 w10 w11 := Eff.of hb
  have hz11 : w10.heap.size ≤ w11.heap.size := he11.size
  have b11 : Below W.heap.size W w11 := b10.trans (he11.below b10.size (by omega))
  replace hr := (hr.below (he11.below (B := W.heap.size) (by omega) (by omega)) (Nat.le_refl _))
  replace res_f0 := (he11.frozen res_0 (by simp only; omega)).trans res_f0
  replace res_f1 := (he11.frozen res_1 (by simp only; omega)).trans res_f1
  replace res_f2 := (he11.frozen res_2 (by simp only; omega)).trans res_f2
  replace res_f3 := (he11.frozen res_3 (by simp only; omega)).trans res_f3
  replace res_f4 := (he11.frozen res_4 (by simp only; omega)).trans res_f4
  replace res_f5 := (he11.frozen res_5 (by simp only; omega)).trans res_f5
  replace res_f6 := (he11.frozen res_6 (by simp only; omega)).trans res_f6
  replace s_f0 := (he11.frozen s_0 (by simp only; omega)).trans s_f0
  replace s_f1 := (he11.frozen s_1 (by simp only; omega)).trans s_f1
  replace s_f2 := (he11.frozen s_2 (by simp only; omega)).trans s_f2
  replace s_f3 := (he11.frozen s_3 (by simp only; omega)).trans s_f3
  replace s_f4 := (he11.frozen s_4 (by simp only; omega)).trans s_f4
  replace s_f5 := (he11.frozen s_5 (by simp only; omega)).trans s_f5
  replace s_f6 := (he11.frozen s_6 (by simp only; omega)).trans s_f6
  replace res_0 := he11.cell res_0 (by simp only; omega)
  replace res_1 := he11.cell res_1 (by simp only; omega)
  replace res_2 := he11.cell res_2 (by simp only; omega)
  replace res_3 := he11.cell res_3 (by simp only; omega)
  replace res_4 := he11.cell res_4 (by simp only; omega)
  replace res_5 := he11.cell res_5 (by simp only; omega)
  replace res_6 := he11.cell res_6 (by simp only; omega)
  replace s_0 := he11.cell s_0 (by simp only; omega)
  replace s_1 := he11.cell s_1 (by simp only; omega)
  replace s_2 := he11.cell s_2 (by simp only; omega)
  replace s_3 := he11.cell s_3 (by simp only; omega)
  replace s_4 := he11.cell s_4 (by simp only; omega)
  replace s_5 := he11.cell s_5 (by simp only; omega)
  replace s_6 := he11.cell s_6 (by simp only; omega)
  replace res_l := Nat.lt_of_lt_of_le res_l hz11
  replace s_l := Nat.lt_of_lt_of_le s_l hz11
  clear hb
  rw [H4.out]
  go_wp2_with fail
  have he12 : Eff (W.heap.size + 1) (W.heap.size + 1 + 1) w11 (w11.setCell ⟨W.heap.size + 1, 4, none⟩ (.int .i64 v4)) := eff_set _ _ _ _
  replace res_f0 := (he12.frozen res_0 (by simp only; omega)).trans res_f0
  replace res_f1 := (he12.frozen res_1 (by simp only; omega)).trans res_f1
  replace res_f2 := (he12.frozen res_2 (by simp only; omega)).trans res_f2
  replace res_f3 := (he12.frozen res_3 (by simp only; omega)).trans res_f3
  replace res_f4 := (he12.frozen res_4 (by simp only; omega)).trans res_f4
  replace res_f5 := (he12.frozen res_5 (by simp only; omega)).trans res_f5
  replace res_f6 := (he12.frozen res_6 (by simp only; omega)).trans res_f6
  replace s_f0 := set_frozen (p := ⟨W.heap.size + 1, 4, none⟩) s_f0 (.int .i64 v4)
  replace s_f1 := set_frozen (p := ⟨W.heap.size + 1, 4, none⟩) s_f1 (.int .i64 v4)
  replace s_f2 := set_frozen (p := ⟨W.heap.size + 1, 4, none⟩) s_f2 (.int .i64 v4)
  replace s_f3 := set_frozen (p := ⟨W.heap.size + 1, 4, none⟩) s_f3 (.int .i64 v4)
  replace s_f4 := set_frozen (p := ⟨W.heap.size + 1, 4, none⟩) s_f4 (.int .i64 v4)
  replace s_f5 := set_frozen (p := ⟨W.heap.size + 1, 4, none⟩) s_f5 (.int .i64 v4)
  replace s_f6 := set_frozen (p := ⟨W.heap.size + 1, 4, none⟩) s_f6 (.int .i64 v4)
  replace res_0 := he12.cell res_0 (by simp only; omega)
  replace res_1 := he12.cell res_1 (by simp only; omega)
  replace res_2 := he12.cell res_2 (by simp only; omega)
  replace res_3 := he12.cell res_3 (by simp only; omega)
  replace res_4 := he12.cell res_4 (by simp only; omega)
  replace res_5 := he12.cell res_5 (by simp only; omega)
  replace res_6 := he12.cell res_6 (by simp only; omega)
  replace s_0 := set_other (b' := W.heap.size + 1) (o' := 4) s_0 (.int .i64 v4) (.inr (by omega))
  replace s_1 := set_other (b' := W.heap.size + 1) (o' := 4) s_1 (.int .i64 v4) (.inr (by omega))
  replace s_2 := set_other (b' := W.heap.size + 1) (o' := 4) s_2 (.int .i64 v4) (.inr (by omega))
  replace s_3 := set_other (b' := W.heap.size + 1) (o' := 4) s_3 (.int .i64 v4) (.inr (by omega))
  replace s_4 := set_same s_4 (.int .i64 v4)
  replace s_5 := set_other (b' := W.heap.size + 1) (o' := 4) s_5 (.int .i64 v4) (.inr (by omega))
  replace s_6 := set_other (b' := W.heap.size + 1) (o' := 4) s_6 (.int .i64 v4) (.inr (by omega))
  have hz12 : w11.heap.size ≤ (w11.setCell ⟨W.heap.size + 1, 4, none⟩ (.int .i64 v4)).heap.size := he12.size
  generalize (w11.setCell ⟨W.heap.size + 1, 4, none⟩ (.int .i64 v4)) = w12 at *
  have b12 : Below W.heap.size W w12 := b11.trans (he12.below b11.size (by omega))
  replace hr := (hr.below (he12.below (B := W.heap.size) (by omega) (by omega)) (Nat.le_refl _))
  replace res_l := Nat.lt_of_lt_of_le res_l hz12
  replace s_l := Nat.lt_of_lt_of_le s_l hz12
  refine (spec_GetNum _ n _ l 14 7 (by omega) w12 (hr.more (by omega))).mono ?_
  rintro e w13 ⟨rfl, hb⟩
  have he13 : Eff 0 0 w12 w13 := Eff.of hb
  have hz13 : w12.heap.size ≤ w13.heap.size := he13.size
  have b13 : Below W.heap.size W w13 := b12.trans (he13.below b12.size (by omega))
  replace hr := (hr.below (he13.below (B := W.heap.size) (by omega) (by omega)) (Nat.le_refl _))
  replace res_f0 := (he13.frozen res_0 (by simp only; omega)).trans res_f0
  replace res_f1 := (he13.frozen res_1 (by simp only; omega)).trans res_f1
  replace res_f2 := (he13.frozen res_2 (by simp only; omega)).trans res_f2
  replace res_f3 := (he13.frozen res_3 (by simp only; omega)).trans res_f3
  replace res_f4 := (he13.frozen res_4 (by simp only; omega)).trans res_f4
  replace res_f5 := (he13.frozen res_5 (by simp only; omega)).trans res_f5
  replace res_f6 := (he13.frozen res_6 (by simp only; omega)).trans res_f6
  replace s_f0 := (he13.frozen s_0 (by simp only; omega)).trans s_f0
  replace s_f1 := (he13.frozen s_1 (by simp only; omega)).trans s_f1
  replace s_f2 := (he13.frozen s_2 (by simp only; omega)).trans s_f2
  replace s_f3 := (he13.frozen s_3 (by simp only; omega)).trans s_f3
  replace s_f4 := (he13.frozen s_4 (by simp only; omega)).trans s_f4
  replace s_f5 := (he13.frozen s_5 (by simp only; omega)).trans s_f5
  replace s_f6 := (he13.frozen s_6 (by simp only; omega)).trans s_f6
  replace res_0 := he13.cell res_0 (by simp only; omega)
  replace res_1 := he13.cell res_1 (by simp only; omega)
  replace res_2 := he13.cell res_2 (by simp only; omega)
  replace res_3 := he13.cell res_3 (by simp only; omega)
  replace res_4 := he13.cell res_4 (by simp only; omega)
  replace res_5 := he13.cell res_5 (by simp only; omega)
  replace res_6 := he13.cell res_6 (by simp only; omega)
  replace s_0 := he13.cell s_0 (by simp only; omega)
  replace s_1 := he13.cell s_1 (by simp only; omega)
  replace s_2 := he13.cell s_2 (by simp only; omega)
  replace s_3 := he13.cell s_3 (by simp only; omega)
  replace s_4 := he13.cell s_4 (by simp only; omega)
  replace s_5 := he13.cell s_5 (by simp only; omega)
  replace s_6 := he13.cell s_6 (by simp only; omega)
  replace res_l := Nat.lt_of_lt_of_le res_l hz13
  replace s_l := Nat.lt_of_lt_of_le s_l hz13
  clear hb
  rw [H5.out]
  go_wp2_with fail
  have he14 : Eff (W.heap.size + 1) (W.heap.size + 1 + 1) w13 (w13.setCell ⟨W.heap.size + 1, 5, none⟩ (.int .i64 v5)) := eff_set _ _ _ _
  replace res_f0 := (he14.frozen res_0 (by simp only; omega)).trans res_f0
  replace res_f1 := (he14.frozen res_1 (by simp only; omega)).trans res_f1
  replace res_f2 := (he14.frozen res_2 (by simp only; omega)).trans res_f2
  replace res_f3 := (he14.frozen res_3 (by simp only; omega)).trans res_f3
  replace res_f4 := (he14.frozen res_4 (by simp only; omega)).trans res_f4
  replace res_f5 := (he14.frozen res_5 (by simp only; omega)).trans res_f5
  replace res_f6 := (he14.frozen res_6 (by simp only; omega)).trans res_f6
  replace s_f0 := set_frozen (p := ⟨W.heap.size + 1, 5, none⟩) s_f0 (.int .i64 v5)
  replace s_f1 := set_frozen (p := ⟨W.heap.size + 1, 5, none⟩) s_f1 (.int .i64 v5)
  replace s_f2 := set_frozen (p := ⟨W.heap.size + 1, 5, none⟩) s_f2 (.int .i64 v5)
  replace s_f3 := set_frozen (p := ⟨W.heap.size + 1, 5, none⟩) s_f3 (.int .i64 v5)
  replace s_f4 := set_frozen (p := ⟨W.heap.size + 1, 5, none⟩) s_f4 (.int .i64 v5)
  replace s_f5 := set_frozen (p := ⟨W.heap.size + 1, 5, none⟩) s_f5 (.int .i64 v5)
  replace s_f6 := set_frozen (p := ⟨W.heap.size + 1, 5, none⟩) s_f6 (.int .i64 v5)
  replace res_0 := he14.cell res_0 (by simp only; omega)
  replace res_1 := he14.cell res_1 (by simp only; omega)
  replace res_2 := he14.cell res_2 (by simp only; omega)
  replace res_3 := he14.cell res_3 (by simp only; omega)
  replace res_4 := he14.cell res_4 (by simp only; omega)
  replace res_5 := he14.cell res_5 (by simp only; omega)
  replace res_6 := he14.cell res_6 (by simp only; omega)
  replace s_0 := set_other (b' := W.heap.size + 1) (o' := 5) s_0 (.int .i64 v5) (.inr (by omega))
  replace s_1 := set_other (b' := W.heap.size + 1) (o' := 5) s_1 (.int .i64 v5) (.inr (by omega))
  replace s_2 := set_other (b' := W.heap.size + 1) (o' := 5) s_2 (.int .i64 v5) (.inr (by omega))
  replace s_3 := set_other (b' := W.heap.size + 1) (o' := 5) s_3 (.int .i64 v5) (.inr (by omega))
  replace s_4 := set_other (b' := W.heap.size + 1) (o' := 5) s_4 (.int .i64 v5) (.inr (by omega))
  replace s_5 := set_same s_5 (.int .i64 v5)
  replace s_6 := set_other (b' := W.heap.size + 1) (o' := 5) s_6 (.int .i64 v5) (.inr (by omega))
  have hz14 : w13.heap.size ≤ (w13.setCell ⟨W.heap.size + 1, 5, none⟩ (.int .i64 v5)).heap.size := he14.size
  generalize (w13.setCell ⟨W.heap.size + 1, 5, none⟩ (.int .i64 v5)) = w14 at *
  have b14 : Below W.heap.size W w14 := b13.trans (he14.below b13.size (by omega))
  replace hr := (hr.below (he14.below (B := W.heap.size) (by omega) (by omega)) (Nat.le_refl _))
  replace res_l := Nat.lt_of_lt_of_le res_l hz14
  replace s_l := Nat.lt_of_lt_of_le s_l hz14
  refine (spec_GetNum _ n _ l 21 1 (by omega) w14 (hr.more (by omega))).mono ?_
  rintro e w15 ⟨rfl, hb⟩
  have he15 : Eff 0 0 w14 w15 := Eff.of hb
  have hz15 : w14.heap.size ≤ w15.heap.size := he15.size
  have b15 : Below W.heap.size W w15 := b14.trans (he15.below b14.size (by omega))
  replace hr := (hr.below (he15.below (B := W.heap.size) (by omega) (by omega)) (Nat.le_refl _))
  replace res_f0 := (he15.frozen res_0 (by simp only; omega)).trans res_f0
  replace res_f1 := (he15.frozen res_1 (by simp only; omega)).trans res_f1
  replace res_f2 := (he15.frozen res_2 (by simp only; omega)).trans res_f2
  replace res_f3 := (he15.frozen res_3 (by simp only; omega)).trans res_f3
  replace res_f4 := (he15.frozen res_4 (by simp only; omega)).trans res_f4
  replace res_f5 := (he15.frozen res_5 (by simp only; omega)).trans res_f5
  replace res_f6 := (he15.frozen res_6 (by simp only; omega)).trans res_f6
  replace s_f0 := (he15.frozen s_0 (by simp only; omega)).trans s_f0
  replace s_f1 := (he15.frozen s_1 (by simp only; omega)).trans s_f1
  replace s_f2 := (he15.frozen s_2 (by simp only; omega)).trans s_f2
  replace s_f3 := (he15.frozen s_3 (by simp only; omega)).trans s_f3
  replace s_f4 := (he15.frozen s_4 (by simp only; omega)).trans s_f4
  replace s_f5 := (he15.frozen s_5 (by simp only; omega)).trans s_f5
  replace s_f6 := (he15.frozen s_6 (by simp only; omega)).trans s_f6
  replace res_0 := he15.cell res_0 (by simp only; omega)
  replace res_1 := he15.cell res_1 (by simp only; omega)
  replace res_2 := he15.cell res_2 (by simp only; omega)
  replace res_3 := he15.cell res_3 (by simp only; omega)
  replace res_4 := he15.cell res_4 (by simp only; omega)
  replace res_5 := he15.cell res_5 (by simp only; omega)
  replace res_6 := he15.cell res_6 (by simp only; omega)
  replace s_0 := he15.cell s_0 (by simp only; omega)
  replace s_1 := he15.cell s_1 (by simp only; omega)
  replace s_2 := he15.cell s_2 (by simp only; omega)
  replace s_3 := he15.cell s_3 (by simp only; omega)
  replace s_4 := he15.cell s_4 (by simp only; omega)
  replace s_5 := he15.cell s_5 (by simp only; omega)
  replace s_6 := he15.cell s_6 (by simp only; omega)
  replace res_l := Nat.lt_of_lt_of_le res_l hz15
  replace s_l := Nat.lt_of_lt_of_le s_l hz15
  clear hb
  rw [H6.out]
  go_wp2_with fail
  have he16 : Eff (W.heap.size + 1) (W.heap.size + 1 + 1) w15 (w15.setCell ⟨W.heap.size + 1, 6, none⟩ (.bool (v6 == 1))) := eff_set _ _ _ _
  replace res_f0 := (he16.frozen res_0 (by simp only; omega)).trans res_f0
  replace res_f1 := (he16.frozen res_1 (by simp only; omega)).trans res_f1
  replace res_f2 := (he16.frozen res_2 (by simp only; omega)).trans res_f2
  replace res_f3 := (he16.frozen res_3 (by simp only; omega)).trans res_f3
  replace res_f4 := (he16.frozen res_4 (by simp only; omega)).trans res_f4
  replace res_f5 := (he16.frozen res_5 (by simp only; omega)).trans res_f5
  replace res_f6 := (he16.frozen res_6 (by simp only; omega)).trans res_f6
  replace s_f0 := set_frozen (p := ⟨W.heap.size + 1, 6, none⟩) s_f0 (.bool (v6 == 1))
  replace s_f1 := set_frozen (p := ⟨W.heap.size + 1, 6, none⟩) s_f1 (.bool (v6 == 1))
  replace s_f2 := set_frozen (p := ⟨W.heap.size + 1, 6, none⟩) s_f2 (.bool (v6 == 1))
  replace s_f3 := set_frozen (p := ⟨W.heap.size + 1, 6, none⟩) s_f3 (.bool (v6 == 1))
  replace s_f4 := set_frozen (p := ⟨W.heap.size + 1, 6, none⟩) s_f4 (.bool (v6 == 1))
  replace s_f5 := set_frozen (p := ⟨W.heap.size + 1, 6, none⟩) s_f5 (.bool (v6 == 1))
  replace s_f6 := set_frozen (p := ⟨W.heap.size + 1, 6, none⟩) s_f6 (.bool (v6 == 1))
  replace res_0 := he16.cell res_0 (by simp only; omega)
  replace res_1 := he16.cell res_1 (by simp only; omega)
  replace res_2 := he16.cell res_2 (by simp only; omega)
  replace res_3 := he16.cell res_3 (by simp only; omega)
  replace res_4 := he16.cell res_4 (by simp only; omega)
  replace res_5 := he16.cell res_5 (by simp only; omega)
  replace res_6 := he16.cell res_6 (by simp only; omega)
  replace s_0 := set_other (b' := W.heap.size + 1) (o' := 6) s_0 (.bool (v6 == 1)) (.inr (by omega))
  replace s_1 := set_other (b' := W.heap.size + 1) (o' := 6) s_1 (.bool (v6 == 1)) (.inr (by omega))
  replace s_2 := set_other (b' := W.heap.size + 1) (o' := 6) s_2 (.bool (v6 == 1)) (.inr (by omega))
  replace s_3 := set_other (b' := W.heap.size + 1) (o' := 6) s_3 (.bool (v6 == 1)) (.inr (by omega))
  replace s_4 := set_other (b' := W.heap.size + 1) (o' := 6) s_4 (.bool (v6 == 1)) (.inr (by omega))
  replace s_5 := set_other (b' := W.heap.size + 1) (o' := 6) s_5 (.bool (v6 == 1)) (.inr (by omega))
  replace s_6 := set_same s_6 (.bool (v6 == 1))
  have hz16 : w15.heap.size ≤ (w15.setCell ⟨W.heap.size + 1, 6, none⟩ (.bool (v6 == 1))).heap.size := he16.size
  generalize (w15.setCell ⟨W.heap.size + 1, 6, none⟩ (.bool (v6 == 1))) = w16 at *
  have b16 : Below W.heap.size W w16 := b15.trans (he16.below b15.size (by omega))
  replace hr := (hr.below (he16.below (B := W.heap.size) (by omega) (by omega)) (Nat.le_refl _))
  replace res_l := Nat.lt_of_lt_of_le res_l hz16
  replace s_l := Nat.lt_of_lt_of_le s_l hz16
  refine (spec_EventBody v0 v1 v2 v3 v4 v5 (v6 == 1) w16).mono ?_
  rintro e w17 hpost
  rw [HO.out] at hpost
  obtain ⟨Ar, cr, rfl, r, hb⟩ := hpost.yes (N := 22)
  clear hpost
  have he17 : Eff 0 0 w16 w17 := Eff.of hb
  have hz17 : w16.heap.size ≤ w17.heap.size := he17.size
  have b17 : Below W.heap.size W w17 := b16.trans (he17.below b16.size (by omega))
  replace hr := (hr.below (he17.below (B := W.heap.size) (by omega) (by omega)) (Nat.le_refl _))
  replace res_f0 := (he17.frozen res_0 (by simp only; omega)).trans res_f0
  replace res_f1 := (he17.frozen res_1 (by simp only; omega)).trans res_f1
  replace res_f2 := (he17.frozen res_2 (by simp only; omega)).trans res_f2
  replace res_f3 := (he17.frozen res_3 (by simp only; omega)).trans res_f3
  replace res_f4 := (he17.frozen res_4 (by simp only; omega)).trans res_f4
  replace res_f5 := (he17.frozen res_5 (by simp only; omega)).trans res_f5
  replace res_f6 := (he17.frozen res_6 (by simp only; omega)).trans res_f6
  replace s_f0 := (he17.frozen s_0 (by simp only; omega)).trans s_f0
  replace s_f1 := (he17.frozen s_1 (by simp only; omega)).trans s_f1
  replace s_f2 := (he17.frozen s_2 (by simp only; omega)).trans s_f2
  replace s_f3 := (he17.frozen s_3 (by simp only; omega)).trans s_f3
  replace s_f4 := (he17.frozen s_4 (by simp only; omega)).trans s_f4
  replace s_f5 := (he17.frozen s_5 (by simp only; omega)).trans s_f5
  replace s_f6 := (he17.frozen s_6 (by simp only; omega)).trans s_f6
  replace res_0 := he17.cell res_0 (by simp only; omega)
  replace res_1 := he17.cell res_1 (by simp only; omega)
  replace res_2 := he17.cell res_2 (by simp only; omega)
  replace res_3 := he17.cell res_3 (by simp only; omega)
  replace res_4 := he17.cell res_4 (by simp only; omega)
  replace res_5 := he17.cell res_5 (by simp only; omega)
  replace res_6 := he17.cell res_6 (by simp only; omega)
  replace s_0 := he17.cell s_0 (by simp only; omega)
  replace s_1 := he17.cell s_1 (by simp only; omega)
  replace s_2 := he17.cell s_2 (by simp only; omega)
  replace s_3 := he17.cell s_3 (by simp only; omega)
  replace s_4 := he17.cell s_4 (by simp only; omega)
  replace s_5 := he17.cell s_5 (by simp only; omega)
  replace s_6 := he17.cell s_6 (by simp only; omega)
  replace res_l := Nat.lt_of_lt_of_le res_l hz17
  replace s_l := Nat.lt_of_lt_of_le s_l hz17
  clear hb
  have hc1 := (OwnB.rd r (B := w17.heap.size) (by omega)).str 22 5 cr Try.underlying22 Try.underlying5 9 Try.underlying9
  have hc2 := hr.str 22 5 c Try.underlying22 Try.underlying5 9 Try.underlying9
  have hne := (beq_toListBytes _ _).symm.trans (bstr_other HQ.out)
  obtain ⟨s1, hs1x⟩ : ∃ s, bstr (evBytes v0.toNat v1.toNat v2.toNat v3.toNat v4.toNat v5.toNat (v6 == 1)) = s := ⟨_, rfl⟩
  obtain ⟨s2, hs2x⟩ : ∃ s, bstr l = s := ⟨_, rfl⟩
  rw [hs1x] at hc1 hne
  rw [hs2x] at hc2 hne
  clear hs1x hs2x
  go_wp2
  refine bodyPost_ret (v := .tuple #[.agg #[.int .i64 0, .int .i64 0, .int .i64 0, .int .i64 0, .int .i64 0, .int .i64 0, .bool false], .bool false]) (by simp [results, Try.results50, go_sem, *]) rfl ?_
  exact EvR.no HG.out (below_set7 b17)
set_option maxHeartbeats 4000000 in
set_option maxRecDepth 100000 in
theorem spec_BodyEvent_same (A : Option Addr) (n c : Nat) (l : List UInt8) (v0 : Int) (t0 : Bool) (v1 : Int) (t1 : Bool) (v2 : Int) (t2 : Bool) (v3 : Int) (t3 : Bool) (v4 : Int) (t4 : Bool) (v5 : Int) (t5 : Bool) (v6 : Int) (t6 : Bool) (H0 : Hid (getNum l 1 1 = (v0, t0))) (H1 : Hid (getNum l 2 3 = (v1, t1))) (H2 : Hid (getNum l 5 1 = (v2, t2))) (H3 : Hid (getNum l 6 1 = (v3, t3))) (H4 : Hid (getNum l 7 7 = (v4, t4))) (H5 : Hid (getNum l 14 7 = (v5, t5))) (H6 : Hid (getNum l 21 1 = (v6, t6))) (hn : n ≤ 1099511627776) (HO : Hid (evOk v0 v1 v2 v3 v4 v5 (v6 == 1) = true)) (HQ : Hid (evBytes v0.toNat v1.toNat v2.toNat v3.toNat v4.toNat v5.toNat (v6 == 1) = l)) (HG : Hid (evGood l = true)) (W : World) (hr : Rd W W.heap.size 1 A n (Lib.byteCells l)) : Calls Try.prog 50 #[.slice A n c] W (EvR l W) := by
  go_enter Try.func50, Try.ntmps50
  go_wp2_with fail
  have he1 : Eff 0 0 W (W.alloc (.cells #[.int .i64 0, .int .i64 0, .int .i64 0, .int .i64 0, .int .i64 0, .int .i64 0, .bool false] 42)) := Eff.alloc _ _
  have hs1 : (W.alloc (.cells #[.int .i64 0, .int .i64 0, .int .i64 0, .int .i64 0, .int .i64 0, .int .i64 0, .bool false] 42)).heap.size = W.heap.size + 1 := (by simp)
  have res_0 : (W.alloc (.cells #[.int .i64 0, .int .i64 0, .int .i64 0, .int .i64 0, .int .i64 0, .int .i64 0, .bool false] 42)).cell? ⟨W.heap.size, 0, none⟩ = some (.int .i64 0) := var_cell _ _ _ _ _ rfl
  have res_1 : (W.alloc (.cells #[.int .i64 0, .int .i64 0, .int .i64 0, .int .i64 0, .int .i64 0, .int .i64 0, .bool false] 42)).cell? ⟨W.heap.size, 1, none⟩ = some (.int .i64 0) := var_cell _ _ _ _ _ rfl
  have res_2 : (W.alloc (.cells #[.int .i64 0, .int .i64 0, .int .i64 0, .int .i64 0, .int .i64 0, .int .i64 0, .bool false] 42)).cell? ⟨W.heap.size, 2, none⟩ = some (.int .i64 0) := var_cell _ _ _ _ _ rfl
  have res_3 : (W.alloc (.cells #[.int .i64 0, .int .i64 0, .int .i64 0, .int .i64 0, .int .i64 0, .int .i64 0, .bool false] 42)).cell? ⟨W.heap.size, 3, none⟩ = some (.int .i64 0) := var_cell _ _ _ _ _ rfl
  have res_4 : (W.alloc (.cells #[.int .i64 0, .int .i64 0, .int .i64 0, .int .i64 0, .int .i64 0, .int .i64 0, .bool false] 42)).cell? ⟨W.heap.size, 4, none⟩ = some (.int .i64 0) := var_cell _ _ _ _ _ rfl
  have res_5 : (W.alloc (.cells #[.int .i64 0, .int .i64 0, .int .i64 0, .int .i64 0, .int .i64 0, .int .i64 0, .bool false] 42)).cell? ⟨W.heap.size, 5, none⟩ = some (.int .i64 0) := var_cell _ _ _ _ _ rfl
  have res_6 : (W.alloc (.cells #[.int .i64 0, .int .i64 0, .int .i64 0, .int .i64 0, .int .i64 0, .int .i64 0, .bool false] 42)).cell? ⟨W.heap.size, 6, none⟩ = some (.bool false) := var_cell _ _ _ _ _ rfl
  have res_f0 : (W.alloc (.cells #[.int .i64 0, .int .i64 0, .int .i64 0, .int .i64 0, .int .i64 0, .int .i64 0, .bool false] 42)).frozen? ⟨W.heap.size, 0, none⟩ = false := var_frozen _ _ _ _
  have res_f1 : (W.alloc (.cells #[.int .i64 0, .int .i64 0, .int .i64 0, .int .i64 0, .int .i64 0, .int .i64 0, .bool false] 42)).frozen? ⟨W.heap.size, 1, none⟩ = false := var_frozen _ _ _ _
  have res_f2 : (W.alloc (.cells #[.int .i64 0, .int .i64 0, .int .i64 0, .int .i64 0, .int .i64 0, .int .i64 0, .bool false] 42)).frozen? ⟨W.heap.size, 2, none⟩ = false := var_frozen _ _ _ _
  have res_f3 : (W.alloc (.cells #[.int .i64 0, .int .i64 0, .int .i64 0, .int .i64 0, .int .i64 0, .int .i64 0, .bool false] 42)).frozen? ⟨W.heap.size, 3, none⟩ = false := var_frozen _ _ _ _
  have res_f4 : (W.alloc (.cells #[.int .i64 0, .int .i64 0, .int .i64 0, .int .i64 0, .int .i64 0, .int .i64 0, .bool false] 42)).frozen? ⟨W.heap.size, 4, none⟩ = false := var_frozen _ _ _ _
  have res_f5 : (W.alloc (.cells #[.int .i64 0, .int .i64 0, .int .i64 0, .int .i64 0, .int .i64 0, .int .i64 0, .bool false] 42)).frozen? ⟨W.heap.size, 5, none⟩ = false := var_frozen _ _ _ _
  have res_f6 : (W.alloc (.cells #[.int .i64 0, .int .i64 0, .int .i64 0, .int .i64 0, .int .i64 0, .int .i64 0, .bool false] 42)).frozen? ⟨W.heap.size, 6, none⟩ = false := var_frozen _ _ _ _
  generalize (W.alloc (.cells #[.int .i64 0, .int .i64 0, .int .i64 0, .int .i64 0, .int .i64 0, .int .i64 0, .bool false] 42)) = w1 at *
  have hz1 : W.heap.size ≤ w1.heap.size := he1.size
  have b1 : Below W.heap.size W w1 := he1.below (Nat.le_refl _) (by omega)
  replace hr := (hr.below (he1.below (B := W.heap.size) (by omega) (by omega)) (Nat.le_refl _))
  have res_l : W.heap.size < w1.heap.size := (by omega)
  have he2 : Eff 0 0 w1 (w1.alloc (.cells #[.int .i64 0, .int .i64 0, .int .i64 0, .int .i64 0, .int .i64 0, .int .i64 0, .bool false] 42)) := Eff.alloc _ _
  have hs2 : (w1.alloc (.cells #[.int .i64 0, .int .i64 0, .int .i64 0, .int .i64 0, .int .i64 0, .int .i64 0, .bool false] 42)).heap.size = w1.heap.size + 1 := (by simp)
  have s_0 : (w1.alloc (.cells #[.int .i64 0, .int .i64 0, .int .i64 0, .int .i64 0, .int .i64 0, .int .i64 0, .bool false] 42)).cell? ⟨w1.heap.size, 0, none⟩ = some (.int .i64 0) := var_cell _ _ _ _ _ rfl
  have s_1 : (w1.alloc (.cells #[.int .i64 0, .int .i64 0, .int .i64 0, .int .i64 0, .int .i64 0, .int .i64 0, .bool false] 42)).cell? ⟨w1.heap.size, 1, none⟩ = some (.int .i64 0) := var_cell _ _ _ _ _ rfl
  have s_2 : (w1.alloc (.cells #[.int .i64 0, .int .i64 0, .int .i64 0, .int .i64 0, .int .i64 0, .int .i64 0, .bool false] 42)).cell? ⟨w1.heap.size, 2, none⟩ = some (.int .i64 0) := var_cell _ _ _ _ _ rfl
  have s_3 : (w1.alloc (.cells #[.int .i64 0, .int .i64 0, .int .i64 0, .int .i64 0, .int .i64 0, .int .i64 0, .bool false] 42)).cell? ⟨w1.heap.size, 3, none⟩ = some (.int .i64 0) := var_cell _ _ _ _ _ rfl
  have s_4 : (w1.alloc (.cells #[.int .i64 0, .int .i64 0, .int .i64 0, .int .i64 0, .int .i64 0, .int .i64 0, .bool false] 42)).cell? ⟨w1.heap.size, 4, none⟩ = some (.int .i64 0) := var_cell _ _ _ _ _ rfl
  have s_5 : (w1.alloc (.cells #[.int .i64 0, .int .i64 0, .int .i64 0, .int .i64 0, .int .i64 0, .int .i64 0, .bool false] 42)).cell? ⟨w1.heap.size, 5, none⟩ = some (.int .i64 0) := var_cell _ _ _ _ _ rfl
  have s_6 : (w1.alloc (.cells #[.int .i64 0, .int .i64 0, .int .i64 0, .int .i64 0, .int .i64 0, .int .i64 0, .bool false] 42)).cell? ⟨w1.heap.size, 6, none⟩ = some (.bool false) := var_cell _ _ _ _ _ rfl
  have s_f0 : (w1.alloc (.cells #[.int .i64 0, .int .i64 0, .int .i64 0, .int .i64 0, .int .i64 0, .int .i64 0, .bool false] 42)).frozen? ⟨w1.heap.size, 0, none⟩ = false := var_frozen _ _ _ _
  have s_f1 : (w1.alloc (.cells #[.int .i64 0, .int .i64 0, .int .i64 0, .int .i64 0, .int .i64 0, .int .i64 0, .bool false] 42)).frozen? ⟨w1.heap.size, 1, none⟩ = false := var_frozen _ _ _ _
  have s_f2 : (w1.alloc (.cells #[.int .i64 0, .int .i64 0, .int .i64 0, .int .i64 0, .int .i64 0, .int .i64 0, .bool false] 42)).frozen? ⟨w1.heap.size, 2, none⟩ = false := var_frozen _ _ _ _
  have s_f3 : (w1.alloc (.cells #[.int .i64 0, .int .i64 0, .int .i64 0, .int .i64 0, .int .i64 0, .int .i64 0, .bool false] 42)).frozen? ⟨w1.heap.size, 3, none⟩ = false := var_frozen _ _ _ _
  have s_f4 : (w1.alloc (.cells #[.int .i64 0, .int .i64 0, .int .i64 0, .int .i64 0, .int .i64 0, .int .i64 0, .bool false] 42)).frozen? ⟨w1.heap.size, 4, none⟩ = false := var_frozen _ _ _ _
  have s_f5 : (w1.alloc (.cells #[.int .i64 0, .int .i64 0, .int .i64 0, .int .i64 0, .int .i64 0, .int .i64 0, .bool false] 42)).frozen? ⟨w1.heap.size, 5, none⟩ = false := var_frozen _ _ _ _
  have s_f6 : (w1.alloc (.cells #[.int .i64 0, .int .i64 0, .int .i64 0, .int .i64 0, .int .i64 0, .int .i64 0, .bool false] 42)).frozen? ⟨w1.heap.size, 6, none⟩ = false := var_frozen _ _ _ _
  generalize (w1.alloc (.cells #[.int .i64 0, .int .i64 0, .int .i64 0, .int .i64 0, .int .i64 0, .int .i64 0, .bool false] 42)) = w2 at *
  have hz2 : w1.heap.size ≤ w2.heap.size := he2.size
  have b2 : Below W.heap.size W w2 := b1.trans (he2.below b1.size (by omega))
  replace hr := (hr.below (he2.below (B := W.heap.size) (by omega) (by omega)) (Nat.le_refl _))
  replace res_f0 := (he2.frozen res_0 (by simp only; omega)).trans res_f0
  replace res_f1 := (he2.frozen res_1 (by simp only; omega)).trans res_f1
  replace res_f2 := (he2.frozen res_2 (by simp only; omega)).trans res_f2
  replace res_f3 := (he2.frozen res_3 (by simp only; omega)).trans res_f3
  replace res_f4 := (he2.frozen res_4 (by simp only; omega)).trans res_f4
  replace res_f5 := (he2.frozen res_5 (by simp only; omega)).trans res_f5
  replace res_f6 := (he2.frozen res_6 (by simp only; omega)).trans res_f6
  replace res_0 := he2.cell res_0 (by simp only; omega)
  replace res_1 := he2.cell res_1 (by simp only; omega)
  replace res_2 := he2.cell res_2 (by simp only; omega)
  replace res_3 := he2.cell res_3 (by simp only; omega)
  replace res_4 := he2.cell res_4 (by simp only; omega)
  replace res_5 := he2.cell res_5 (by simp only; omega)
  replace res_6 := he2.cell res_6 (by simp only; omega)
  replace res_l := Nat.lt_of_lt_of_le res_l hz2
  rw [hs1] at s_0 s_f0
  rw [hs1] at s_1 s_f1
  rw [hs1] at s_2 s_f2
  rw [hs1] at s_3 s_f3
  rw [hs1] at s_4 s_f4
  rw [hs1] at s_5 s_f5
  rw [hs1] at s_6 s_f6
  have s_l : W.heap.size + 1 < w2.heap.size := (by omega)
  refine (spec_GetNum _ n _ l 1 1 (by omega) w2 (hr.more (by omega))).mono ?_
  rintro e w3 ⟨rfl, hb⟩
  have he3 : Eff 0 0 w2 w3 := Eff.of hb
  have hz3 : w2.heap.size ≤ w3.heap.size := he3.size
  have b3 : Below W.heap.size W w3 := b2.trans (he3.below b2.size (by omega))
  replace hr := (hr.below (he3.below (B := W.heap.size) (by omega) (by omega)) (Nat.le_refl _))
  replace res_f0 := (he3.frozen res_0 (by simp only; omega)).trans res_f0
  replace res_f1 := (he3.frozen res_1 (by simp only; omega)).trans res_f1
  replace res_f2 := (he3.frozen res_2 (by simp only; omega)).trans res_f2
  replace res_f3 := (he3.frozen res_3 (by simp only; omega)).trans res_f3
  replace res_f4 := (he3.frozen res_4 (by simp only; omega)).trans res_f4
  replace res_f5 := (he3.frozen res_5 (by simp only; omega)).trans res_f5
  replace res_f6 := (he3.frozen res_6 (by simp only; omega)).trans res_f6
  replace s_f0 := (he3.frozen s_0 (by simp only; omega)).trans s_f0
  replace s_f1 := (he3.frozen s_1 (by simp only; omega)).trans s_f1
  replace s_f2 := (he3.frozen s_2 (by simp only; omega)).trans s_f2
  replace s_f3 := (he3.frozen s_3 (by simp only; omega)).trans s_f3
  replace s_f4 := (he3.frozen s_4 (by simp only; omega)).trans s_f4
  replace s_f5 := (he3.frozen s_5 (by simp only; omega)).trans s_f5
  replace s_f6 := (he3.frozen s_6 (by simp only; omega)).trans s_f6
  replace res_0 := he3.cell res_0 (by simp only; omega)
  replace res_1 := he3.cell res_1 (by simp only; omega)
  replace res_2 := he3.cell res_2 (by simp only; omega)
  replace res_3 := he3.cell res_3 (by simp only; omega)
  replace res_4 := he3.cell res_4 (by simp only; omega)
  replace res_5 := he3.cell res_5 (by simp only; omega)
  replace res_6 := he3.cell res_6 (by simp only; omega)
  replace s_0 := he3.cell s_0 (by simp only; omega)
  replace s_1 := he3.cell s_1 (by simp only; omega)
  replace s_2 := he3.cell s_2 (by simp only; omega)
  replace s_3 := he3.cell s_3 (by simp only; omega)
  replace s_4 := he3.cell s_4 (by simp only; omega)
  replace s_5 := he3.cell s_5 (by simp only; omega)
  replace s_6 := he3.cell s_6 (by simp only; omega)
  replace res_l := Nat.lt_of_lt_of_le res_l hz3
  replace s_l := Nat.lt_of_lt_of_le s_l hz3
  clear hb
  rw [H0.out]
  go_wp2_with fail
  have he4 : Eff (W.heap.size + 1) (W.heap.size + 1 + 1) w3 (w3.setCell ⟨W.heap.size + 1, 0, none⟩ (.int .i64 v0)) := eff_set _ _ _ _
  replace res_f0 := (he4.frozen res_0 (by simp only; omega)).trans res_f0
  replace res_f1 := (he4.frozen res_1 (by simp only; omega)).trans res_f1
  replace res_f2 := (he4.frozen res_2 (by simp only; omega)).trans res_f2
  replace res_f3 := (he4.frozen res_3 (by simp only; omega)).trans res_f3
  replace res_f4 := (he4.frozen res_4 (by simp only; omega)).trans res_f4
  replace res_f5 := (he4.frozen res_5 (by simp only; omega)).trans res_f5
  replace res_f6 := (he4.frozen res_6 (by simp only; omega)).trans res_f6
  replace s_f0 := set_frozen (p := ⟨W.heap.size + 1, 0, none⟩) s_f0 (.int .i64 v0)
  replace s_f1 := set_frozen (p := ⟨W.heap.size + 1, 0, none⟩) s_f1 (.int .i64 v0)
  replace s_f2 := set_frozen (p := ⟨W.heap.size + 1, 0, none⟩) s_f2 (.int .i64 v0)
  replace s_f3 := set_frozen (p := ⟨W.heap.size + 1, 0, none⟩) s_f3 (.int .i64 v0)
  replace s_f4 := set_frozen (p := ⟨W.heap.size + 1, 0, none⟩) s_f4 (.int .i64 v0)
  replace s_f5 := set_frozen (p := ⟨W.heap.size + 1, 0, none⟩) s_f5 (.int .i64 v0)
  replace s_f6 := set_frozen (p := ⟨W.heap.size + 1, 0, none⟩) s_f6 (.int .i64 v0)
  replace res_0 := he4.cell res_0 (by simp only; omega)
  replace res_1 := he4.cell res_1 (by simp only; omega)
  replace res_2 := he4.cell res_2 (by simp only; omega)
  replace res_3 := he4.cell res_3 (by simp only; omega)
  replace res_4 := he4.cell res_4 (by simp only; omega)
  replace res_5 := he4.cell res_5 (by simp only; omega)
  replace res_6 := he4.cell res_6 (by simp only; omega)
  replace s_0 := set_same s_0 (.int .i64 v0)
  replace s_1 := set_other (b' := W.heap.size + 1) (o' := 0) s_1 (.int .i64 v0) (.inr (by omega))
  replace s_2 := set_other (b' := W.heap.size + 1) (o' := 0) s_2 (.int .i64 v0) (.inr (by omega))
  replace s_3 := set_other (b' := W.heap.size + 1) (o' := 0) s_3 (.int .i64 v0) (.inr (by omega))
  replace s_4 := set_other (b' := W.heap.size + 1) (o' := 0) s_4 (.int .i64 v0) (.inr (by omega))
  replace s_5 := set_other (b' := W.heap.size + 1) (o' := 0) s_5 (.int .i64 v0) (.inr (by omega))
  replace s_6 := set_other (b' := W.heap.size + 1) (o' := 0) s_6 (.int .i64 v0) (.inr (by omega))
  have hz4 : w3.heap.size ≤ (w3.setCell ⟨W.heap.size + 1, 0, none⟩ (.int .i64 v0)).heap.size := he4.size
  generalize (w3.setCell ⟨W.heap.size + 1, 0, none⟩ (.int .i64 v0)) = w4 at *
  have b4 : Below W.heap.size W w4 := b3.trans (he4.below b3.size (by omega))
  replace hr := (hr.below (he4.below (B := W.heap.size) (by omega) (by omega)) (Nat.le_refl _))
  replace res_l := Nat.lt_of_lt_of_le res_l hz4
  replace s_l := Nat.lt_of_lt_of_le s_l hz4
  refine (spec_GetNum _ n _ l 2 3 (by omega) w4 (hr.more (by omega))).mono ?_
  rintro e w5 ⟨rfl, hb⟩
  have he5 : Eff 0 0 w4 w5 := Eff.of hb
  have hz5 : w4.heap.size ≤ w5.heap.size := he5.size
  have b5 : Below W.heap.size W w5 := b4.trans (he5.below b4.size (by omega))
  replace hr := (hr.below (he5.below (B := W.heap.size) (by omega) (by omega)) (Nat.le_refl _))
  replace res_f0 := (he5.frozen res_0 (by simp only; omega)).trans res_f0
  replace res_f1 := (he5.frozen res_1 (by simp only; omega)).trans res_f1
  replace res_f2 := (he5.frozen res_2 (by simp only; omega)).trans res_f2
  replace res_f3 := (he5.frozen res_3 (by simp only; omega)).trans res_f3
  replace res_f4 := (he5.frozen res_4 (by simp only; omega)).trans res_f4
  replace res_f5 := (he5.frozen res_5 (by simp only; omega)).trans res_f5
  replace res_f6 := (he5.frozen res_6 (by simp only; omega)).trans res_f6
  replace s_f0 := (he5.frozen s_0 (by simp only; omega)).trans s_f0
  replace s_f1 := (he5.frozen s_1 (by simp only; omega)).trans s_f1
  replace s_f2 := (he5.frozen s_2 (by simp only; omega)).trans s_f2
  replace s_f3 := (he5.frozen s_3 (by simp only; omega)).trans s_f3
  replace s_f4 := (he5.frozen s_4 (by simp only; omega)).trans s_f4
  replace s_f5 := (he5.frozen s_5 (by simp only; omega)).trans s_f5
  replace s_f6 := (he5.frozen s_6 (by simp only; omega)).trans s_f6
  replace res_0 := he5.cell res_0 (by simp only; omega)
  replace res_1 := he5.cell res_1 (by simp only; omega)
  replace res_2 := he5.cell res_2 (by simp only; omega)
  replace res_3 := he5.cell res_3 (by simp only; omega)
  replace res_4 := he5.cell res_4 (by simp only; omega)
  replace res_5 := he5.cell res_5 (by simp only; omega)
  replace res_6 := he5.cell res_6 (by simp only; omega)
  replace s_0 := he5.cell s_0 (by simp only; omega)
  replace s_1 := he5.cell s_1 (by simp only; omega)
  replace s_2 := he5.cell s_2 (by simp only; omega)
  replace s_3 := he5.cell s_3 (by simp only; omega)
  replace s_4 := he5.cell s_4 (by simp only; omega)
  replace s_5 := he5.cell s_5 (by simp only; omega)
  replace s_6 := he5.cell s_6 (by simp only; omega)
  replace res_l := Nat.lt_of_lt_of_le res_l hz5
  replace s_l := Nat.lt_of_lt_of_le s_l hz5
  clear hb
  rw [H1.out]
  go_wp2_with fail
  have he6 : Eff (W.heap.size + 1) (W.heap.size + 1 + 1) w5 (w5.setCell ⟨W.heap.size + 1, 1, none⟩ (.int .i64 v1)) := eff_set _ _ _ _
  replace res_f0 := (he6.frozen res_0 (by simp only; omega)).trans res_f0
  replace res_f1 := (he6.frozen res_1 (by simp only; omega)).trans res_f1
  replace res_f2 := (he6.frozen res_2 (by simp only; omega)).trans res_f2
  replace res_f3 := (he6.frozen res_3 (by simp only; omega)).trans res_f3
  replace res_f4 := (he6.frozen res_4 (by simp only; omega)).trans res_f4
  replace res_f5 := (he6.frozen res_5 (by simp only; omega)).trans res_f5
  replace res_f6 := (he6.frozen res_6 (by simp only; omega)).trans res_f6
  replace s_f0 := set_frozen (p := ⟨W.heap.size + 1, 1, none⟩) s_f0 (.int .i64 v1)
  replace s_f1 := set_frozen (p := ⟨W.heap.size + 1, 1, none⟩) s_f1 (.int .i64 v1)
  replace s_f2 := set_frozen (p := ⟨W.heap.size + 1, 1, none⟩) s_f2 (.int .i64 v1)
  replace s_f3 := set_frozen (p := ⟨W.heap.size + 1, 1, none⟩) s_f3 (.int .i64 v1)
  replace s_f4 := set_frozen (p := ⟨W.heap.size + 1, 1, none⟩) s_f4 (.int .i64 v1)
  replace s_f5 := set_frozen (p := ⟨W.heap.size + 1, 1, none⟩) s_f5 (.int .i64 v1)
  replace s_f6 := set_frozen (p := ⟨W.heap.size + 1, 1, none⟩) s_f6 (.int .i64 v1)
  replace res_0 := he6.cell res_0 (by simp only; omega)
  replace res_1 := he6.cell res_1 (by simp only; omega)
  replace res_2 := he6.cell res_2 (by simp only; omega)
  replace res_3 := he6.cell res_3 (by simp only; omega)
  replace res_4 := he6.cell res_4 (by simp only; omega)
  replace res_5 := he6.cell res_5 (by simp only; omega)
  replace res_6 := he6.cell res_6 (by simp only; omega)
  replace s_0 := set_other (b' := W.heap.size + 1) (o' := 1) s_0 (.int .i64 v1) (.inr (by omega))
  replace s_1 := set_same s_1 (.int .i64 v1)
  replace s_2 := set_other (b' := W.heap.size + 1) (o' := 1) s_2 (.int .i64 v1) (.inr (by omega))
  replace s_3 := set_other (b' := W.heap.size + 1) (o' := 1) s_3 (.int .i64 v1) (.inr (by omega))
  replace s_4 := set_other (b' := W.heap.size + 1) (o' := 1) s_4 (.int .i64 v1) (.inr (by omega))
  replace s_5 := set_other (b' := W.heap.size + 1) (o' := 1) s_5 (.int .i64 v1) (.inr (by omega))
  replace s_6 := set_other (b' := W.heap.size + 1) (o' := 1) s_6 (.int .i64 v1) (.inr (by omega))
  have hz6 : w5.heap.size ≤ (w5.setCell ⟨W.heap.size + 1, 1, none⟩ (.int .i64 v1)).heap.size := he6.size
  generalize (w5.setCell ⟨W.heap.size + 1, 1, none⟩ (.int .i64 v1)) = w6 at *
  have b6 : Below W.heap.size W w6 := b5.trans (he6.below b5.size (by omega))
  replace hr := (hr.below (he6.below (B := W.heap.size) (by omega) (by omega)) (Nat.le_refl _))
  replace res_l := Nat.lt_of_lt_of_le res_l hz6
  replace s_l := Nat.lt_of_lt_of_le s_l hz6
  refine (spec_GetNum _ n _ l 5 1 (by omega) w6 (hr.more (by omega))).mono ?_
  rintro e w7 ⟨rfl, hb⟩
  have he7 : Eff 0 0 w6 w7 := Eff.of hb
  have hz7 : w6.heap.size ≤ w7.heap.size := he7.size
  have b7 : Below W.heap.size W w7 := b6.trans (he7.below b6.size (by omega))
  replace hr := (hr.below (he7.below (B := W.heap.size) (by omega) (by omega)) (Nat.le_refl _))
  replace res_f0 := (he7.frozen res_0 (by simp only; omega)).trans res_f0
  replace res_f1 := (he7.frozen res_1 (by simp only; omega)).trans res_f1
  replace res_f2 := (he7.frozen res_2 (by simp only; omega)).trans res_f2
  replace res_f3 := (he7.frozen res_3 (by simp only; omega)).trans res_f3
  replace res_f4 := (he7.frozen res_4 (by simp only; omega)).trans res_f4
  replace res_f5 := (he7.frozen res_5 (by simp only; omega)).trans res_f5
  replace res_f6 := (he7.frozen res_6 (by simp only; omega)).trans res_f6
  replace s_f0 := (he7.frozen s_0 (by simp only; omega)).trans s_f0
  replace s_f1 := (he7.frozen s_1 (by simp only; omega)).trans s_f1
  replace s_f2 := (he7.frozen s_2 (by simp only; omega)).trans s_f2
  replace s_f3 := (he7.frozen s_3 (by simp only; omega)).trans s_f3
  replace s_f4 := (he7.frozen s_4 (by simp only; omega)).trans s_f4
  replace s_f5 := (he7.frozen s_5 (by simp only; omega)).trans s_f5
  replace s_f6 := (he7.frozen s_6 (by simp only; omega)).trans s_f6
  replace res_0 := he7.cell res_0 (by simp only; omega)
  replace res_1 := he7.cell res_1 (by simp only; omega)
  replace res_2 := he7.cell res_2 (by simp only; omega)
  replace res_3 := he7.cell res_3 (by simp only; omega)
  replace res_4 := he7.cell res_4 (by simp only; omega)
  replace res_5 := he7.cell res_5 (by simp only; omega)
  replace res_6 := he7.cell res_6 (by simp only; omega)
  replace s_0 := he7.cell s_0 (by simp only; omega)
  replace s_1 := he7.cell s_1 (by simp only; omega)
  replace s_2 := he7.cell s_2 (by simp only; omega)
  replace s_3 := he7.cell s_3 (by simp only; omega)
  replace s_4 := he7.cell s_4 (by simp only; omega)
  replace s_5 := he7.cell s_5 (by simp only; omega)
  replace s_6 := he7.cell s_6 (by simp only; omega)
  replace res_l := Nat.lt_of_lt_of_le res_l hz7
  replace s_l := Nat.lt_of_lt_of_le s_l hz7
  clear hb
  rw [H2.out]
  go_wp2_with fail
  have he8 : Eff (W.heap.size + 1) (W.heap.size + 1 + 1) w7 (w7.setCell ⟨W.heap.size + 1, 2, none⟩ (.int .i64 v2)) := eff_set _ _ _ _
  replace res_f0 := (he8.frozen res_0 (by simp only; omega)).trans res_f0
  replace res_f1 := (he8.frozen res_1 (by simp only; omega)).trans res_f1
  replace res_f2 := (he8.frozen res_2 (by simp only; omega)).trans res_f2
  replace res_f3 := (he8.frozen res_3 (by simp only; omega)).trans res_f3
  replace res_f4 := (he8.frozen res_4 (by simp only; omega)).trans res_f4
  replace res_f5 := (he8.frozen res_5 (by simp only; omega)).trans res_f5
  replace res_f6 := (he8.frozen res_6 (by simp only; omega)).trans res_f6
  replace s_f0 := set_frozen (p := ⟨W.heap.size + 1, 2, none⟩) s_f0 (.int .i64 v2)
  replace s_f1 := set_frozen (p := ⟨W.heap.size + 1, 2, none⟩) s_f1 (.int .i64 v2)
  replace s_f2 := set_frozen (p := ⟨W.heap.size + 1, 2, none⟩) s_f2 (.int .i64 v2)
  replace s_f3 := set_frozen (p := ⟨W.heap.size + 1, 2, none⟩) s_f3 (.int .i64 v2)
  replace s_f4 := set_frozen (p := ⟨W.heap.size + 1, 2, none⟩) s_f4 (.int .i64 v2)
  replace s_f5 := set_frozen (p := ⟨W.heap.size + 1, 2, none⟩) s_f5 (.int .i64 v2)
  replace s_f6 := set_frozen (p := ⟨W.heap.size + 1, 2, none⟩) s_f6 (.int .i64 v2)
  replace res_0 := he8.cell res_0 (by simp only; omega)
  replace res_1 := he8.cell res_1 (by simp only; omega)
  replace res_2 := he8.cell res_2 (by simp only; omega)
  replace res_3 := he8.cell res_3 (by simp only; omega)
  replace res_4 := he8.cell res_4 (by simp only; omega)
  replace res_5 := he8.cell res_5 (by simp only; omega)
  replace res_6 := he8.cell res_6 (by simp only; omega)
  replace s_0 := set_other (b' := W.heap.size + 1) (o' := 2) s_0 (.int .i64 v2) (.inr (by omega))
  replace s_1 := set_other (b' := W.heap.size + 1) (o' := 2) s_1 (.int .i64 v2) (.inr (by omega))
  replace s_2 := set_same s_2 (.int .i64 v2)
  replace s_3 := set_other (b' := W.heap.size + 1) (o' := 2) s_3 (.int .i64 v2) (.inr (by omega))
  replace s_4 := set_other (b' := W.heap.size + 1) (o' := 2) s_4 (.int .i64 v2) (.inr (by omega))
  replace s_5 := set_other (b' := W.heap.size + 1) (o' := 2) s_5 (.int .i64 v2) (.inr (by omega))
  replace s_6 := set_other (b' := W.heap.size + 1) (o' := 2) s_6 (.int .i64 v2) (.inr (by omega))
  have hz8 : w7.heap.size ≤ (w7.setCell ⟨W.heap.size + 1, 2, none⟩ (.int .i64 v2)).heap.size := he8.size
  generalize (w7.setCell ⟨W.heap.size + 1, 2, none⟩ (.int .i64 v2)) = w8 at *
  have b8 : Below W.heap.size W w8 := b7.trans (he8.below b7.size (by omega))
  replace hr := (hr.below (he8.below (B := W.heap.size) (by omega) (by omega)) (Nat.le_refl _))
  replace res_l := Nat.lt_of_lt_of_le res_l hz8
  replace s_l := Nat.lt_of_lt_of_le s_l hz8
  refine (spec_GetNum _ n _ l 6 1 (by omega) w8 (hr.more (by omega))).mono ?_
  rintro e w9 ⟨rfl, hb⟩
  have he9 : Eff 0 0 w8 w9 := Eff.of hb
  have hz9 : w8.heap.size ≤ w9.heap.size := he9.size
  have b9 : Below W.heap.size W w9 := b8.trans (he9.below b8.size (by omega))
  replace hr := (hr.below (he9.below (B := W.heap.size) (by omega) (by omega)) (Nat.le_refl _))
  replace res_f0 := (he9.frozen res_0 (by simp only; omega)).trans res_f0
  replace res_f1 := (he9.frozen res_1 (by simp only; omega)).trans res_f1
  replace res_f2 := (he9.frozen res_2 (by simp only; omega)).trans res_f2
  replace res_f3 := (he9.frozen res_3 (by simp only; omega)).trans res_f3
  replace res_f4 := (he9.frozen res_4 (by simp only; omega)).trans res_f4
  replace res_f5 := (he9.frozen res_5 (by simp only; omega)).trans res_f5
  replace res_f6 := (he9.frozen res_6 (by simp only; omega)).trans res_f6
  replace s_f0 := (he9.frozen s_0 (by simp only; omega)).trans s_f0
  replace s_f1 := (he9.frozen s_1 (by simp only; omega)).trans s_f1
  replace s_f2 := (he9.frozen s_2 (by simp only; omega)).trans s_f2
  replace s_f3 := (he9.frozen s_3 (by simp only; omega)).trans s_f3
  replace s_f4 := (he9.frozen s_4 (by simp only; omega)).trans s_f4
  replace s_f5 := (he9.frozen s_5 (by simp only; omega)).trans s_f5
  replace s_f6 := (he9.frozen s_6 (by simp only; omega)).trans s_f6
  replace res_0 := he9.cell res_0 (by simp only; omega)
  replace res_1 := he9.cell res_1 (by simp only; omega)
  replace res_2 := he9.cell res_2 (by simp only; omega)
  replace res_3 := he9.cell res_3 (by simp only; omega)
  replace res_4 := he9.cell res_4 (by simp only; omega)
  replace res_5 := he9.cell res_5 (by simp only; omega)
  replace res_6 := he9.cell res_6 (by simp only; omega)
  replace s_0 := he9.cell s_0 (by simp only; omega)
  replace s_1 := he9.cell s_1 (by simp only; omega)
  replace s_2 := he9.cell s_2 (by simp only; omega)
  replace s_3 := he9.cell s_3 (by simp only; omega)
  replace s_4 := he9.cell s_4 (by simp only; omega)
  replace s_5 := he9.cell s_5 (by simp only; omega)
  replace s_6 := he9.cell s_6 (by simp only; omega)
  replace res_l := Nat.lt_of_lt_of_le res_l hz9
  replace s_l := Nat.lt_of_lt_of_le s_l hz9
  clear hb
  rw [H3.out]
  go_wp2_with fail
  have he10 : Eff (W.heap.size + 1) (W.heap.size + 1 + 1) w9 (w9.setCell ⟨W.heap.size + 1, 3, none⟩ (.int .i64 v3)) := eff_set _ _ _ _
  replace res_f0 := (he10.frozen res_0 (by simp only; omega)).trans res_f0
  replace res_f1 := (he10.frozen res_1 (by simp only; omega)).trans res_f1
  replace res_f2 := (he10.frozen res_2 (by simp only; omega)).trans res_f2
  replace res_f3 := (he10.frozen res_3 (by simp only; omega)).trans res_f3
  replace res_f4 := (he10.frozen res_4 (by simp only; omega)).trans res_f4
  replace res_f5 := (he10.frozen res_5 (by simp only; omega)).trans res_f5
  replace res_f6 := (he10.frozen res_6 (by simp only; omega)).trans res_f6
  replace s_f0 := set_frozen (p := ⟨W.heap.size + 1, 3, none⟩) s_f0 (.int .i64 v3)
  replace s_f1 := set_frozen (p := ⟨W.heap.size + 1, 3, none⟩) s_f1 (.int .i64 v3)
  replace s_f2 := set_frozen (p := ⟨W.heap.size + 1, 3, none⟩) s_f2 (.int .i64 v3)
  replace s_f3 := set_frozen (p := ⟨W.heap.size + 1, 3, none⟩) s_f3 (.int .i64 v3)
  replace s_f4 := set_frozen (p := ⟨W.heap.size + 1, 3, none⟩) s_f4 (.int .i64 v3)
  replace s_f5 := set_frozen (p := ⟨W.heap.size + 1, 3, none⟩) s_f5 (.int .i64 v3)
  replace s_f6 := set_frozen (p := ⟨W.heap.size + 1, 3, none⟩) s_f6 (.int .i64 v3)
  replace res_0 := he10.cell res_0 (by simp only; omega)
  replace res_1 := he10.cell res_1 (by simp only; omega)
  replace res_2 := he10.cell res_2 (by simp only; omega)
  replace res_3 := he10.cell res_3 (by simp only; omega)
  replace res_4 := he10.cell res_4 (by simp only; omega)
  replace res_5 := he10.cell res_5 (by simp only; omega)
  replace res_6 := he10.cell res_6 (by simp only; omega)
  replace s_0 := set_other (b' := W.heap.size + 1) (o' := 3) s_0 (.int .i64 v3) (.inr (by omega))
  replace s_1 := set_other (b' := W.heap.size + 1) (o' := 3) s_1 (.int .i64 v3) (.inr (by omega))
  replace s_2 := set_other (b' := W.heap.size + 1) (o' := 3) s_2 (.int .i64 v3) (.inr (by omega))
  replace s_3 := set_same s_3 (.int .i64 v3)
  replace s_4 := set_other (b' := W.heap.size + 1) (o' := 3) s_4 (.int .i64 v3) (.inr (by omega))
  replace s_5 := set_other (b' := W.heap.size + 1) (o' := 3) s_5 (.int .i64 v3) (.inr (by omega))
  replace s_6 := set_other (b' := W.heap.size + 1) (o' := 3) s_6 (.int .i64 v3) (.inr (by omega))
  have hz10 : w9.heap.size ≤ (w9.setCell ⟨W.heap.size + 1, 3, none⟩ (.int .i64 v3)).heap.size := he10.size
  generalize (w9.setCell ⟨W.heap.size + 1, 3, none⟩ (.int .i64 v3)) = w10 at *
  have b10 : Below W.heap.size W w10 := b9.trans (he10.below b9.size (by omega))
  replace hr := (hr.below (he10.below (B := W.heap.size) (by omega) (by omega)) (Nat.le_refl _))
  replace res_l := Nat.lt_of_lt_of_le res_l hz10
  replace s_l := Nat.lt_of_lt_of_le s_l hz10
  refine (spec_GetNum _ n _ l 7 7 (by omega) w10 (hr.more (by omega))).mono ?_
  rintro e w11 ⟨rfl, hb⟩
  have he11 : Eff 0 0 w10 w11 := Eff.of hb
  have hz11 : w10.heap.size ≤ w11.heap.size := he11.size
  have b11 : Below W.heap.size W w11 := b10.trans (he11.below b10.size (by omega))
  replace hr := (hr.below (he11.below (B := W.heap.size) (by omega) (by omega)) (Nat.le_refl _))
  replace res_f0 := (he11.frozen res_0 (by simp only; omega)).trans res_f0
  replace res_f1 := (he11.frozen res_1 (by simp only; omega)).trans res_f1
  replace res_f2 := (he11.frozen res_2 (by simp only; omega)).trans res_f2
  replace res_f3 := (he11.frozen res_3 (by simp only; omega)).trans res_f3
  replace res_f4 := (he11.frozen res_4 (by simp only; omega)).trans res_f4
  replace res_f5 := (he11.frozen res_5 (by simp only; omega)).trans res_f5
  replace res_f6 := (he11.frozen res_6 (by simp only; omega)).trans res_f6
  replace s_f0 := (he11.frozen s_0 (by simp only; omega)).trans s_f0
  replace s_f1 := (he11.frozen s_1 (by simp only; omega)).trans s_f1
  replace s_f2 := (he11.frozen s_2 (by simp only; omega)).trans s_f2
  replace s_f3 := (he11.frozen s_3 (by simp only; omega)).trans s_f3
  replace s_f4 := (he11.frozen s_4 (by simp only; omega)).trans s_f4
  replace s_f5 := (he11.frozen s_5 (by simp only; omega)).trans s_f5
  replace s_f6 := (he11.frozen s_6 (by simp only; omega)).trans s_f6
  replace res_0 := he11.cell res_0 (by simp only; omega)
  replace res_1 := he11.cell res_1 (by simp only; omega)
  replace res_2 := he11.cell res_2 (by simp only; omega)
  replace res_3 := he11.cell res_3 (by simp only; omega)
  replace res_4 := he11.cell res_4 (by simp only; omega)
  replace res_5 := he11.cell res_5 (by simp only; omega)
  replace res_6 := he11.cell res_6 (by simp only; omega)
  replace s_0 := he11.cell s_0 (by simp only; omega)
  replace s_1 := he11.cell s_1 (by simp only; omega)
  replace s_2 := he11.cell s_2 (by simp only; omega)
  replace s_3 := he11.cell s_3 (by simp only; omega)
  replace s_4 := he11.cell s_4 (by simp only; omega)
  replace s_5 := he11.cell s_5 (by simp only; omega)
  replace s_6 := he11.cell s_6 (by simp only; omega)
  replace res_l := Nat.lt_of_lt_of_le res_l hz11
  replace s_l := Nat.lt_of_lt_of_le s_l hz11
  clear hb
  rw [H4.out]
  go_wp2_with fail
  have he12 : Eff (W.heap.size + 1) (W.heap.size + 1 + 1) w11 (w11.setCell ⟨W.heap.size + 1, 4, none⟩ (.int .i64 v4)) := eff_set _ _ _ _
  replace res_f0 := (he12.frozen res_0 (by simp only; omega)).trans res_f0
  replace res_f1 := (he12.frozen res_1 (by simp only; omega)).trans res_f1
  replace res_f2 := (he12.frozen res_2 (by simp only; omega)).trans res_f2
  replace res_f3 := (he12.frozen res_3 (by simp only; omega)).trans res_f3
  replace res_f4 := (he12.frozen res_4 (by simp only; omega)).trans res_f4
  replace res_f5 := (he12.frozen res_5 (by simp only; omega)).trans res_f5
  replace res_f6 := (he12.frozen res_6 (by simp only; omega)).trans res_f6
  replace s_f0 := set_frozen (p := ⟨W.heap.size + 1, 4, none⟩) s_f0 (.int .i64 v4)
  replace s_f1 := set_frozen (p := ⟨W.heap.size + 1, 4, none⟩) s_f1 (.int .i64 v4)
  replace s_f2 := set_frozen (p := ⟨W.heap.size + 1, 4, none⟩) s_f2 (.int .i64 v4)
  replace s_f3 := set_frozen (p := ⟨W.heap.size + 1, 4, none⟩) s_f3 (.int .i64 v4)
  replace s_f4 := set_frozen (p := ⟨W.heap.size + 1, 4, none⟩) s_f4 (.int .i64 v4)
  replace s_f5 := set_frozen (p := ⟨W.heap.size + 1, 4, none⟩) s_f5 (.int .i64 v4)
  replace s_f6 := set_frozen (p := ⟨W.heap.size + 1, 4, none⟩) s_f6 (.int .i64 v4)
  replace res_0 := he12.cell res_0 (by simp only; omega)
  replace res_1 := he12.cell res_1 (by simp only; omega)
  replace res_2 := he12.cell res_2 (by simp only; omega)
  replace res_3 := he12.cell res_3 (by simp only; omega)
  replace res_4 := he12.cell res_4 (by simp only; omega)
  replace res_5 := he12.cell res_5 (by simp only; omega)
  replace res_6 := he12.cell res_6 (by simp only; omega)
  replace s_0 := set_other (b' := W.heap.size + 1) (o' := 4) s_0 (.int .i64 v4) (.inr (by omega))
  replace s_1 := set_other (b' := W.heap.size + 1) (o' := 4) s_1 (.int .i64 v4) (.inr (by omega))
  replace s_2 := set_other (b' := W.heap.size + 1) (o' := 4) s_2 (.int .i64 v4) (.inr (by omega))
  replace s_3 := set_other (b' := W.heap.size + 1) (o' := 4) s_3 (.int .i64 v4) (.inr (by omega))
  replace s_4 := set_same s_4 (.int .i64 v4)
  replace s_5 := set_other (b' := W.heap.size + 1) (o' := 4) s_5 (.int .i64 v4) (.inr (by omega))
  replace s_6 := set_other (b' := W.heap.size + 1) (o' := 4) s_6 (.int .i64 v4) (.inr (by omega))
  have hz12 : w11.heap.size ≤ (w11.setCell ⟨W.heap.size + 1, 4, none⟩ (.int .i64 v4)).heap.size := he12.size
  generalize (w11.setCell ⟨W.heap.size + 1, 4, none⟩ (.int .i64 v4)) = w12 at *
  have b12 : Below W.heap.size W w12 := b11.trans (he12.below b11.size (by omega))
  replace hr := (hr.below (he12.below (B := W.heap.size) (by omega) (by omega)) (Nat.le_refl _))
  replace res_l := Nat.lt_of_lt_of_le res_l hz12
  replace s_l := Nat.lt_of_lt_of_le s_l hz12
  refine (spec_GetNum _ n _ l 14 7 (by omega) w12 (hr.more (by omega))).mono ?_
  rintro e w13 ⟨rfl, hb⟩
  have he13 : Eff 0 0 w12 w13 := Eff.of hb
  have hz13 : w12.heap.size ≤ w13.heap.size := he13.size
  have b13 : Below W.heap.size W w13 := b12.trans (he13.below b12.size (by omega))
  replace hr := (hr.below (he13.below (B := W.heap.size) (by omega) (by omega)) (Nat.le_refl _))
  replace res_f0 := (he13.frozen res_0 (by simp only; omega)).trans res_f0
  replace res_f1 := (he13.frozen res_1 (by simp only; omega)).trans res_f1
  replace res_f2 := (he13.frozen res_2 (by simp only; omega)).trans res_f2
  replace res_f3 := (he13.frozen res_3 (by simp only; omega)).trans res_f3
  replace res_f4 := (he13.frozen res_4 (by simp only; omega)).trans res_f4
  replace res_f5 := (he13.frozen res_5 (by simp only; omega)).trans res_f5
  replace res_f6 := (he13.frozen res_6 (by simp only; omega)).trans res_f6
  replace s_f0 := (he13.frozen s_0 (by simp only; omega)).trans s_f0
  replace s_f1 := (he13.frozen s_1 (by simp only; omega)).trans s_f1
  replace s_f2 := (he13.frozen s_2 (by simp only; omega)).trans s_f2
  replace s_f3 := (he13.frozen s_3 (by simp only; omega)).trans s_f3
  replace s_f4 := (he13.frozen s_4 (by simp only; omega)).trans s_f4
  replace s_f5 := (he13.frozen s_5 (by simp only; omega)).trans s_f5
  replace s_f6 := (he13.frozen s_6 (by simp only; omega)).trans s_f6
  replace res_0 := he13.cell res_0 (by simp only; omega)
  replace res_1 := he13.cell res_1 (by simp only; omega)
  replace res_2 := he13.cell res_2 (by simp only; omega)
  replace res_3 := he13.cell res_3 (by simp only; omega)
  replace res_4 := he13.cell res_4 (by simp only; omega)
  replace res_5 := he13.cell res_5 (by simp only; omega)
  replace res_6 := he13.cell res_6 (by simp only; omega)
  replace s_0 := he13.cell s_0 (by simp only; omega)
  replace s_1 := he13.cell s_1 (by simp only; omega)
  replace s_2 := he13.cell s_2 (by simp only; omega)
  replace s_3 := he13.cell s_3 (by simp only; omega)
  replace s_4 := he13.cell s_4 (by simp only; omega)
  replace s_5 := he13.cell s_5 (by simp only; omega)
  replace s_6 := he13.cell s_6 (by simp only; omega)
  replace res_l := Nat.lt_of_lt_of_le res_l hz13
  replace s_l := Nat.lt_of_lt_of_le s_l hz13
  clear hb
  rw [H5.out]
  go_wp2_with fail
  have he14 : Eff (W.heap.size + 1) (W.heap.size + 1 + 1) w13 (w13.setCell ⟨W.heap.size + 1, 5, none⟩ (.int .i64 v5)) := eff_set _ _ _ _
  replace res_f0 := (he14.frozen res_0 (by simp only; omega)).trans res_f0
  replace res_f1 := (he14.frozen res_1 (by simp only; omega)).trans res_f1
  replace res_f2 := (he14.frozen res_2 (by simp only; omega)).trans res_f2
  replace res_f3 := (he14.frozen res_3 (by simp only; omega)).trans res_f3
  replace res_f4 := (he14.frozen res_4 (by simp only; omega)).trans res_f4
  replace res_f5 := (he14.frozen res_5 (by simp only; omega)).trans res_f5
  replace res_f6 := (he14.frozen res_6 (by simp only; omega)).trans res_f6
  replace s_f0 := set_frozen (p := ⟨W.heap.size + 1, 5, none⟩) s_f0 (.int .i64 v5)
  replace s_f1 := set_frozen (p := ⟨W.heap.size + 1, 5, none⟩) s_f1 (.int .i64 v5)
  replace s_f2 := set_frozen (p := ⟨W.heap.size + 1, 5, none⟩) s_f2 (.int .i64 v5)
  replace s_f3 := set_frozen (p := ⟨W.heap.size + 1, 5, none⟩) s_f3 (.int .i64 v5)
  replace s_f4 := set_frozen (p := ⟨W.heap.size + 1, 5, none⟩) s_f4 (.int .i64 v5)
  replace s_f5 := set_frozen (p := ⟨W.heap.size + 1, 5, none⟩) s_f5 (.int .i64 v5)
  replace s_f6 := set_frozen (p := ⟨W.heap.size + 1, 5, none⟩) s_f6 (.int .i64 v5)
  replace res_0 := he14.cell res_0 (by simp only; omega)
  replace res_1 := he14.cell res_1 (by simp only; omega)
  replace res_2 := he14.cell res_2 (by simp only; omega)
  replace res_3 := he14.cell res_3 (by simp only; omega)
  replace res_4 := he14.cell res_4 (by simp only; omega)
  replace res_5 := he14.cell res_5 (by simp only; omega)
  replace res_6 := he14.cell res_6 (by simp only; omega)
  replace s_0 := set_other (b' := W.heap.size + 1) (o' := 5) s_0 (.int .i64 v5) (.inr (by omega))
  replace s_1 := set_other (b' := W.heap.size + 1) (o' := 5) s_1 (.int .i64 v5) (.inr (by omega))
  replace s_2 := set_other (b' := W.heap.size + 1) (o' := 5) s_2 (.int .i64 v5) (.inr (by omega))
  replace s_3 := set_other (b' := W.heap.size + 1) (o' := 5) s_3 (.int .i64 v5) (.inr (by omega))
  replace s_4 := set_other (b' := W.heap.size + 1) (o' := 5) s_4 (.int .i64 v5) (.inr (by omega))
  replace s_5 := set_same s_5 (.int .i64 v5)
  replace s_6 := set_other (b' := W.heap.size + 1) (o' := 5) s_6 (.int .i64 v5) (.inr (by omega))
  have hz14 : w13.heap.size ≤ (w13.setCell ⟨W.heap.size + 1, 5, none⟩ (.int .i64 v5)).heap.size := he14.size
  generalize (w13.setCell ⟨W.heap.size + 1, 5, none⟩ (.int .i64 v5)) = w14 at *
  have b14 : Below W.heap.size W w14 := b13.trans (he14.below b13.size (by omega))
  replace hr := (hr.below (he14.below (B := W.heap.size) (by omega) (by omega)) (Nat.le_refl _))
  replace res_l := Nat.lt_of_lt_of_le res_l hz14
  replace s_l := Nat.lt_of_lt_of_le s_l hz14
  refine (spec_GetNum _ n _ l 21 1 (by omega) w14 (hr.more (by omega))).mono ?_
  rintro e w15 ⟨rfl, hb⟩
  have he15 : Eff 0 0 w14 w15 := Eff.of hb
  have hz15 : w14.heap.size ≤ w15.heap.size := he15.size
  have b15 : Below W.heap.size W w15 := b14.trans (he15.below b14.size (by omega))
  replace hr := (hr.below (he15.below (B := W.heap.size) (by omega) (by omega)) (Nat.le_refl _))
  replace res_f0 := (he15.frozen res_0 (by simp only; omega)).trans res_f0
  replace res_f1 := (he15.frozen res_1 (by simp only; omega)).trans res_f1
  replace res_f2 := (he15.frozen res_2 (by simp only; omega)).trans res_f2
  replace res_f3 := (he15.frozen res_3 (by simp only; omega)).trans res_f3
  replace res_f4 := (he15.frozen res_4 (by simp only; omega)).trans res_f4
  replace res_f5 := (he15.frozen res_5 (by simp only; omega)).trans res_f5
  replace res_f6 := (he15.frozen res_6 (by simp only; omega)).trans res_f6
  replace s_f0 := (he15.frozen s_0 (by simp only; omega)).trans s_f0
  replace s_f1 := (he15.frozen s_1 (by simp only; omega)).trans s_f1
  replace s_f2 := (he15.frozen s_2 (by simp only; omega)).trans s_f2
  replace s_f3 := (he15.frozen s_3 (by simp only; omega)).trans s_f3
  replace s_f4 := (he15.frozen s_4 (by simp only; omega)).trans s_f4
  replace s_f5 := (he15.frozen s_5 (by simp only; omega)).trans s_f5
  replace s_f6 := (he15.frozen s_6 (by simp only; omega)).trans s_f6
  replace res_0 := he15.cell res_0 (by simp only; omega)
  replace res_1 := he15.cell res_1 (by simp only; omega)
  replace res_2 := he15.cell res_2 (by simp only; omega)
  replace res_3 := he15.cell res_3 (by simp only; omega)
  replace res_4 := he15.cell res_4 (by simp only; omega)
  replace res_5 := he15.cell res_5 (by simp only; omega)
  replace res_6 := he15.cell res_6 (by simp only; omega)
  replace s_0 := he15.cell s_0 (by simp only; omega)
  replace s_1 := he15.cell s_1 (by simp only; omega)
  replace s_2 := he15.cell s_2 (by simp only; omega)
  replace s_3 := he15.cell s_3 (by simp only; omega)
  replace s_4 := he15.cell s_4 (by simp only; omega)
  replace s_5 := he15.cell s_5 (by simp only; omega)
  replace s_6 := he15.cell s_6 (by simp only; omega)
  replace res_l := Nat.lt_of_lt_of_le res_l hz15
  replace s_l := Nat.lt_of_lt_of_le s_l hz15
  clear hb
  rw [H6.out]
  go_wp2_with fail
  have he16 : Eff (W.heap.size + 1) (W.heap.size + 1 + 1) w15 (w15.setCell ⟨W.heap.size + 1, 6, none⟩ (.bool (v6 == 1))) := eff_set _ _ _ _
  replace res_f0 := (he16.frozen res_0 (by simp only; omega)).trans res_f0
  replace res_f1 := (he16.frozen res_1 (by simp only; omega)).trans res_f1
  replace res_f2 := (he16.frozen res_2 (by simp only; omega)).trans res_f2
  replace res_f3 := (he16.frozen res_3 (by simp only; omega)).trans res_f3
  replace res_f4 := (he16.frozen res_4 (by simp only; omega)).trans res_f4
  replace res_f5 := (he16.frozen res_5 (by simp only; omega)).trans res_f5
  replace res_f6 := (he16.frozen res_6 (by simp only; omega)).trans res_f6
  replace s_f0 := set_frozen (p := ⟨W.heap.size + 1, 6, none⟩) s_f0 (.bool (v6 == 1))
  replace s_f1 := set_frozen (p := ⟨W.heap.size + 1, 6, none⟩) s_f1 (.bool (v6 == 1))
  replace s_f2 := set_frozen (p := ⟨W.heap.size + 1, 6, none⟩) s_f2 (.bool (v6 == 1))
  replace s_f3 := set_frozen (p := ⟨W.heap.size + 1, 6, none⟩) s_f3 (.bool (v6 == 1))
  replace s_f4 := set_frozen (p := ⟨W.heap.size + 1, 6, none⟩) s_f4 (.bool (v6 == 1))
  replace s_f5 := set_frozen (p := ⟨W.heap.size + 1, 6, none⟩) s_f5 (.bool (v6 == 1))
  replace s_f6 := set_frozen (p := ⟨W.heap.size + 1, 6, none⟩) s_f6 (.bool (v6 == 1))
  replace res_0 := he16.cell res_0 (by simp only; omega)
  replace res_1 := he16.cell res_1 (by simp only; omega)
  replace res_2 := he16.cell res_2 (by simp only; omega)
  replace res_3 := he16.cell res_3 (by simp only; omega)
  replace res_4 := he16.cell res_4 (by simp only; omega)
  replace res_5 := he16.cell res_5 (by simp only; omega)
  replace res_6 := he16.cell res_6 (by simp only; omega)
  replace s_0 := set_other (b' := W.heap.size + 1) (o' := 6) s_0 (.bool (v6 == 1)) (.inr (by omega))
  replace s_1 := set_other (b' := W.heap.size + 1) (o' := 6) s_1 (.bool (v6 == 1)) (.inr (by omega))
  replace s_2 := set_other (b' := W.heap.size + 1) (o' := 6) s_2 (.bool (v6 == 1)) (.inr (by omega))
  replace s_3 := set_other (b' := W.heap.size + 1) (o' := 6) s_3 (.bool (v6 == 1)) (.inr (by omega))
  replace s_4 := set_other (b' := W.heap.size + 1) (o' := 6) s_4 (.bool (v6 == 1)) (.inr (by omega))
  replace s_5 := set_other (b' := W.heap.size + 1) (o' := 6) s_5 (.bool (v6 == 1)) (.inr (by omega))
  replace s_6 := set_same s_6 (.bool (v6 == 1))
  have hz16 : w15.heap.size ≤ (w15.setCell ⟨W.heap.size + 1, 6, none⟩ (.bool (v6 == 1))).heap.size := he16.size
  generalize (w15.setCell ⟨W.heap.size + 1, 6, none⟩ (.bool (v6 == 1))) = w16 at *
  have b16 : Below W.heap.size W w16 := b15.trans (he16.below b15.size (by omega))
  replace hr := (hr.below (he16.below (B := W.heap.size) (by omega) (by omega)) (Nat.le_refl _))
  replace res_l := Nat.lt_of_lt_of_le res_l hz16
  replace s_l := Nat.lt_of_lt_of_le s_l hz16
  refine (spec_EventBody v0 v1 v2 v3 v4 v5 (v6 == 1) w16).mono ?_
  rintro e w17 hpost
  rw [HO.out] at hpost
  obtain ⟨Ar, cr, rfl, r, hb⟩ := hpost.yes (N := 22)
  clear hpost
  have he17 : Eff 0 0 w16 w17 := Eff.of hb
  have hz17 : w16.heap.size ≤ w17.heap.size := he17.size
  have b17 : Below W.heap.size W w17 := b16.trans (he17.below b16.size (by omega))
  replace hr := (hr.below (he17.below (B := W.heap.size) (by omega) (by omega)) (Nat.le_refl _))
  replace res_f0 := (he17.frozen res_0 (by simp only; omega)).trans res_f0
  replace res_f1 := (he17.frozen res_1 (by simp only; omega)).trans res_f1
  replace res_f2 := (he17.frozen res_2 (by simp only; omega)).trans res_f2
  replace res_f3 := (he17.frozen res_3 (by simp only; omega)).trans res_f3
  replace res_f4 := (he17.frozen res_4 (by simp only; omega)).trans res_f4
  replace res_f5 := (he17.frozen res_5 (by simp only; omega)).trans res_f5
  replace res_f6 := (he17.frozen res_6 (by simp only; omega)).trans res_f6
  replace s_f0 := (he17.frozen s_0 (by simp only; omega)).trans s_f0
  replace s_f1 := (he17.frozen s_1 (by simp only; omega)).trans s_f1
  replace s_f2 := (he17.frozen s_2 (by simp only; omega)).trans s_f2
  replace s_f3 := (he17.frozen s_3 (by simp only; omega)).trans s_f3
  replace s_f4 := (he17.frozen s_4 (by simp only; omega)).trans s_f4
  replace s_f5 := (he17.frozen s_5 (by simp only; omega)).trans s_f5
  replace s_f6 := (he17.frozen s_6 (by simp only; omega)).trans s_f6
  replace res_0 := he17.cell res_0 (by simp only; omega)
  replace res_1 := he17.cell res_1 (by simp only; omega)
  replace res_2 := he17.cell res_2 (by simp only; omega)
  replace res_3 := he17.cell res_3 (by simp only; omega)
  replace res_4 := he17.cell res_4 (by simp only; omega)
  replace res_5 := he17.cell res_5 (by simp only; omega)
  replace res_6 := he17.cell res_6 (by simp only; omega)
  replace s_0 := he17.cell s_0 (by simp only; omega)
  replace s_1 := he17.cell s_1 (by simp only; omega)
  replace s_2 := he17.cell s_2 (by simp only; omega)
  replace s_3 := he17.cell s_3 (by simp only; omega)
  replace s_4 := he17.cell s_4 (by simp only; omega)
  replace s_5 := he17.cell s_5 (by simp only; omega)
  replace s_6 := he17.cell s_6 (by simp only; omega)
  replace res_l := Nat.lt_of_lt_of_le res_l hz17
  replace s_l := Nat.lt_of_lt_of_le s_l hz17
  clear hb
  have hc1 := (OwnB.rd r (B := w17.heap.size) (by omega)).str 22 5 cr Try.underlying22 Try.underlying5 9 Try.underlying9
  have hc2 := hr.str 22 5 c Try.underlying22 Try.underlying5 9 Try.underlying9
  rw [HQ.out] at hc1
  obtain ⟨s2, hs2x⟩ : ∃ s, bstr l = s := ⟨_, rfl⟩
  rw [hs2x] at hc1 hc2
  clear hs2x
  go_wp2
  refine bodyPost_ret (v := .tuple #[.agg #[.int .i64 v0, .int .i64 v1, .int .i64 v2, .int .i64 v3, .int .i64 v4, .int .i64 v5, .bool (v6 == 1)], .bool true]) (by simp [results, Try.results50, go_sem, *]) rfl ?_
  refine EvR.yes HG.out H0.out H1.out H2.out H3.out H4.out H5.out H6.out (below_set7 b17)
end Go.Proofs.Ytdjjmagocakpnaa
