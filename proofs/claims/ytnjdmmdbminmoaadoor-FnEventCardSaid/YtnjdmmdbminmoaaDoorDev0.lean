/- Draws of events (l04Draw). -/
import Derived.Test.YtnjdmmdbminmoaaDoorDraw3
import Derived.Test.YtnjdmmdbminmoaaDoorEvS
import Derived.Deep.RegionHeld3
import Derived.Deep.Cut
import Derived.IntWalk
namespace Go.Proofs.YtnjdmmdbminmoaaDoor
open Go.RowKit
theorem eff_set7 (w : World) (b : Nat) (u0 u1 u2 u3 u4 u5 u6 : Value) : Eff b (b + 1) w (((((((w.setCell ⟨b, 0, none⟩ u0).setCell ⟨b, 1, none⟩ u1).setCell ⟨b, 2, none⟩ u2).setCell ⟨b, 3, none⟩ u3).setCell ⟨b, 4, none⟩ u4).setCell ⟨b, 5, none⟩ u5).setCell ⟨b, 6, none⟩ u6) :=
  ((((((eff_set w b 0 u0).trans (eff_set _ b 1 u1)).trans (eff_set _ b 2 u2)).trans (eff_set _ b 3 u3)).trans (eff_set _ b 4 u4)).trans (eff_set _ b 5 u5)).trans (eff_set _ b 6 u6)
/-- An event's variable that still holds zeros. -/
def Z7At (w : World) (b : Nat) : Prop := w.cell? ⟨b, 0, none⟩ = some (.int .i64 0) ∧ w.cell? ⟨b, 1, none⟩ = some (.int .i64 0) ∧ w.cell? ⟨b, 2, none⟩ = some (.int .i64 0) ∧ w.cell? ⟨b, 3, none⟩ = some (.int .i64 0) ∧ w.cell? ⟨b, 4, none⟩ = some (.int .i64 0) ∧ w.cell? ⟨b, 5, none⟩ = some (.int .i64 0) ∧ w.cell? ⟨b, 6, none⟩ = some (.bool false) ∧
  w.frozen? ⟨b, 0, none⟩ = false ∧ w.frozen? ⟨b, 1, none⟩ = false ∧ w.frozen? ⟨b, 2, none⟩ = false ∧ w.frozen? ⟨b, 3, none⟩ = false ∧ w.frozen? ⟨b, 4, none⟩ = false ∧ w.frozen? ⟨b, 5, none⟩ = false ∧ w.frozen? ⟨b, 6, none⟩ = false
theorem Z7At.keep {w w' : World} {b lo hi : Nat} (h : Z7At w b) (he : Eff lo hi w w') (hd : b < lo ∨ hi ≤ b) : Z7At w' b := by
  obtain ⟨c0, c1, c2, c3, c4, c5, c6, f0, f1, f2, f3, f4, f5, f6⟩ := h
  exact ⟨he.cell c0 hd, he.cell c1 hd, he.cell c2 hd, he.cell c3 hd, he.cell c4 hd, he.cell c5 hd, he.cell c6 hd,
    (he.frozen c0 hd).trans f0, (he.frozen c1 hd).trans f1, (he.frozen c2 hd).trans f2, (he.frozen c3 hd).trans f3, (he.frozen c4 hd).trans f4, (he.frozen c5 hd).trans f5, (he.frozen c6 hd).trans f6⟩
/-- A drawn event. -/
def EvPost (B g : Nat) (w : World) (e : Ending) (w' : World) : Prop :=
  ∃ (k key ch to amt fee : Int) (y : Bool), e = .returned (.agg #[.int .i64 k, .int .i64 key, .int .i64 ch, .int .i64 to, .int .i64 amt, .int .i64 fee, .bool y]) ∧ Cur B w' g ∧ Eff g (g + 1) w w'
theorem EvPost.mk {B g b : Nat} {w w1 w2 : World} {k key ch to amt fee : Int} {y : Bool} (E : Eff g (g + 1) w w1) (hc : Cur B w1 g) (he : Eff b (b + 1) w1 w2) (h3 : w.heap.size ≤ b) (h4 : B ≤ g ∧ g < w.heap.size) : EvPost B g w (.returned (.agg #[.int .i64 k, .int .i64 key, .int .i64 ch, .int .i64 to, .int .i64 amt, .int .i64 fee, .bool y])) w2 :=
  ⟨k, key, ch, to, amt, fee, y, rfl, hc.keep he (by omega) (by omega), E.step he (by omega)⟩
theorem ev_pats {x : Int} (h0 : 0 ≤ x) (h1 : x < 11) : evH (1 + x) = (false, false, false, true, false, false) ∨ evH (1 + x) = (false, true, false, true, true, false) ∨ evH (1 + x) = (false, true, false, false, true, false) ∨ evH (1 + x) = (true, true, true, true, false, true) ∨ evH (1 + x) = (true, true, true, true, true, false) ∨ evH (1 + x) = (false, false, false, false, false, false) ∨ evH (1 + x) = (true, false, false, false, false, false) := by
  have hc : x = 0 ∨ x = 1 ∨ x = 2 ∨ x = 3 ∨ x = 4 ∨ x = 5 ∨ x = 6 ∨ x = 7 ∨ x = 8 ∨ x = 9 ∨ x = 10 := by omega
  rcases hc with rfl | rfl | rfl | rfl | rfl | rfl | rfl | rfl | rfl | rfl | rfl <;> simp [evH]
set_option maxHeartbeats 8000000 in
set_option maxRecDepth 100000 in
theorem l04Draw_any (B g : Nat) (W : World) (hc : Cur B W g) : Calls Tryd.prog 63 #[.pointer (some ⟨g, 0, none⟩)] W (EvPost B g W) := by
  have hgl := hc.lt
  have hgB := hc.le
  have E0 : Eff g (g + 1) W W := Eff.refl _ _ _
  go_enter Tryd.func63, Tryd.ntmps63
  go_wp2_with fail
  have he1 : Eff 0 0 W (W.alloc (.cells #[.int .i64 0, .int .i64 0, .int .i64 0, .int .i64 0, .int .i64 0, .int .i64 0, .bool false] 32)) := Eff.alloc _ _
  have hs1 : (W.alloc (.cells #[.int .i64 0, .int .i64 0, .int .i64 0, .int .i64 0, .int .i64 0, .int .i64 0, .bool false] 32)).heap.size = W.heap.size + 1 := (by simp)
  have res_0 : (W.alloc (.cells #[.int .i64 0, .int .i64 0, .int .i64 0, .int .i64 0, .int .i64 0, .int .i64 0, .bool false] 32)).cell? ⟨W.heap.size, 0, none⟩ = some (.int .i64 0) := var_cell _ _ _ _ _ rfl
  have res_1 : (W.alloc (.cells #[.int .i64 0, .int .i64 0, .int .i64 0, .int .i64 0, .int .i64 0, .int .i64 0, .bool false] 32)).cell? ⟨W.heap.size, 1, none⟩ = some (.int .i64 0) := var_cell _ _ _ _ _ rfl
  have res_2 : (W.alloc (.cells #[.int .i64 0, .int .i64 0, .int .i64 0, .int .i64 0, .int .i64 0, .int .i64 0, .bool false] 32)).cell? ⟨W.heap.size, 2, none⟩ = some (.int .i64 0) := var_cell _ _ _ _ _ rfl
  have res_3 : (W.alloc (.cells #[.int .i64 0, .int .i64 0, .int .i64 0, .int .i64 0, .int .i64 0, .int .i64 0, .bool false] 32)).cell? ⟨W.heap.size, 3, none⟩ = some (.int .i64 0) := var_cell _ _ _ _ _ rfl
  have res_4 : (W.alloc (.cells #[.int .i64 0, .int .i64 0, .int .i64 0, .int .i64 0, .int .i64 0, .int .i64 0, .bool false] 32)).cell? ⟨W.heap.size, 4, none⟩ = some (.int .i64 0) := var_cell _ _ _ _ _ rfl
  have res_5 : (W.alloc (.cells #[.int .i64 0, .int .i64 0, .int .i64 0, .int .i64 0, .int .i64 0, .int .i64 0, .bool false] 32)).cell? ⟨W.heap.size, 5, none⟩ = some (.int .i64 0) := var_cell _ _ _ _ _ rfl
  have res_6 : (W.alloc (.cells #[.int .i64 0, .int .i64 0, .int .i64 0, .int .i64 0, .int .i64 0, .int .i64 0, .bool false] 32)).cell? ⟨W.heap.size, 6, none⟩ = some (.bool false) := var_cell _ _ _ _ _ rfl
  have res_f0 : (W.alloc (.cells #[.int .i64 0, .int .i64 0, .int .i64 0, .int .i64 0, .int .i64 0, .int .i64 0, .bool false] 32)).frozen? ⟨W.heap.size, 0, none⟩ = false := var_frozen _ _ _ _
  have res_f1 : (W.alloc (.cells #[.int .i64 0, .int .i64 0, .int .i64 0, .int .i64 0, .int .i64 0, .int .i64 0, .bool false] 32)).frozen? ⟨W.heap.size, 1, none⟩ = false := var_frozen _ _ _ _
  have res_f2 : (W.alloc (.cells #[.int .i64 0, .int .i64 0, .int .i64 0, .int .i64 0, .int .i64 0, .int .i64 0, .bool false] 32)).frozen? ⟨W.heap.size, 2, none⟩ = false := var_frozen _ _ _ _
  have res_f3 : (W.alloc (.cells #[.int .i64 0, .int .i64 0, .int .i64 0, .int .i64 0, .int .i64 0, .int .i64 0, .bool false] 32)).frozen? ⟨W.heap.size, 3, none⟩ = false := var_frozen _ _ _ _
  have res_f4 : (W.alloc (.cells #[.int .i64 0, .int .i64 0, .int .i64 0, .int .i64 0, .int .i64 0, .int .i64 0, .bool false] 32)).frozen? ⟨W.heap.size, 4, none⟩ = false := var_frozen _ _ _ _
  have res_f5 : (W.alloc (.cells #[.int .i64 0, .int .i64 0, .int .i64 0, .int .i64 0, .int .i64 0, .int .i64 0, .bool false] 32)).frozen? ⟨W.heap.size, 5, none⟩ = false := var_frozen _ _ _ _
  have res_f6 : (W.alloc (.cells #[.int .i64 0, .int .i64 0, .int .i64 0, .int .i64 0, .int .i64 0, .int .i64 0, .bool false] 32)).frozen? ⟨W.heap.size, 6, none⟩ = false := var_frozen _ _ _ _
  generalize (W.alloc (.cells #[.int .i64 0, .int .i64 0, .int .i64 0, .int .i64 0, .int .i64 0, .int .i64 0, .bool false] 32)) = w1 at *
  have hz1 : W.heap.size ≤ w1.heap.size := he1.size
  have E1 : Eff g (g + 1) W w1 := E0.step he1 (by omega)
  have S1 := E1.size
  replace hc := hc.keep he1 (by omega) (by omega)
  have res_l : W.heap.size < w1.heap.size := (by omega)
  have zr : Z7At w1 W.heap.size := ⟨res_0, res_1, res_2, res_3, res_4, res_5, res_6, res_f0, res_f1, res_f2, res_f3, res_f4, res_f5, res_f6⟩
  clear res_0 res_1 res_2 res_3 res_4 res_5 res_6 res_f0 res_f1 res_f2 res_f3 res_f4 res_f5 res_f6
  refine (l01Below_any B g (11) (by omega) w1 hc).mono ?_
  rintro e w2 hpost
  obtain ⟨x, rfl, ⟨x_0, x_1, -⟩, hc, he⟩ := hpost.eff
  clear hpost
  replace x_1 := x_1 (by omega)
  have he2 : Eff (g) (g + 1) w1 w2 := he
  have hz2 : w1.heap.size ≤ w2.heap.size := he2.size
  have E2 : Eff g (g + 1) W w2 := E1.step he2 (by omega)
  have S2 := E2.size
  replace zr := zr.keep he2 (by omega)
  replace res_l := Nat.lt_of_lt_of_le res_l hz2
  clear he
  have hpat := ev_pats x_0 x_1
  have q0 : (0 : Int) ≤ 1 + x := by omega
  have q1 : 1 + x ≤ 11 := by omega
  rcases hpat with hp | hp | hp | hp | hp | hp | hp
  · skip
    have HP := Lib.hid hp
    clear hp
    go_wp2_with fail
    have he3 : Eff 0 0 w2 (w2.alloc (.cells #[.int .i64 (1 + x), .int .i64 0, .int .i64 0, .int .i64 0, .int .i64 0, .int .i64 0, .bool false] 32)) := Eff.alloc _ _
    have hs3 : (w2.alloc (.cells #[.int .i64 (1 + x), .int .i64 0, .int .i64 0, .int .i64 0, .int .i64 0, .int .i64 0, .bool false] 32)).heap.size = w2.heap.size + 1 := (by simp)
    have e_0 : (w2.alloc (.cells #[.int .i64 (1 + x), .int .i64 0, .int .i64 0, .int .i64 0, .int .i64 0, .int .i64 0, .bool false] 32)).cell? ⟨w2.heap.size, 0, none⟩ = some (.int .i64 (1 + x)) := var_cell _ _ _ _ _ rfl
    have e_1 : (w2.alloc (.cells #[.int .i64 (1 + x), .int .i64 0, .int .i64 0, .int .i64 0, .int .i64 0, .int .i64 0, .bool false] 32)).cell? ⟨w2.heap.size, 1, none⟩ = some (.int .i64 0) := var_cell _ _ _ _ _ rfl
    have e_2 : (w2.alloc (.cells #[.int .i64 (1 + x), .int .i64 0, .int .i64 0, .int .i64 0, .int .i64 0, .int .i64 0, .bool false] 32)).cell? ⟨w2.heap.size, 2, none⟩ = some (.int .i64 0) := var_cell _ _ _ _ _ rfl
    have e_3 : (w2.alloc (.cells #[.int .i64 (1 + x), .int .i64 0, .int .i64 0, .int .i64 0, .int .i64 0, .int .i64 0, .bool false] 32)).cell? ⟨w2.heap.size, 3, none⟩ = some (.int .i64 0) := var_cell _ _ _ _ _ rfl
    have e_4 : (w2.alloc (.cells #[.int .i64 (1 + x), .int .i64 0, .int .i64 0, .int .i64 0, .int .i64 0, .int .i64 0, .bool false] 32)).cell? ⟨w2.heap.size, 4, none⟩ = some (.int .i64 0) := var_cell _ _ _ _ _ rfl
    have e_5 : (w2.alloc (.cells #[.int .i64 (1 + x), .int .i64 0, .int .i64 0, .int .i64 0, .int .i64 0, .int .i64 0, .bool false] 32)).cell? ⟨w2.heap.size, 5, none⟩ = some (.int .i64 0) := var_cell _ _ _ _ _ rfl
    have e_6 : (w2.alloc (.cells #[.int .i64 (1 + x), .int .i64 0, .int .i64 0, .int .i64 0, .int .i64 0, .int .i64 0, .bool false] 32)).cell? ⟨w2.heap.size, 6, none⟩ = some (.bool false) := var_cell _ _ _ _ _ rfl
    have e_f0 : (w2.alloc (.cells #[.int .i64 (1 + x), .int .i64 0, .int .i64 0, .int .i64 0, .int .i64 0, .int .i64 0, .bool false] 32)).frozen? ⟨w2.heap.size, 0, none⟩ = false := var_frozen _ _ _ _
    have e_f1 : (w2.alloc (.cells #[.int .i64 (1 + x), .int .i64 0, .int .i64 0, .int .i64 0, .int .i64 0, .int .i64 0, .bool false] 32)).frozen? ⟨w2.heap.size, 1, none⟩ = false := var_frozen _ _ _ _
    have e_f2 : (w2.alloc (.cells #[.int .i64 (1 + x), .int .i64 0, .int .i64 0, .int .i64 0, .int .i64 0, .int .i64 0, .bool false] 32)).frozen? ⟨w2.heap.size, 2, none⟩ = false := var_frozen _ _ _ _
    have e_f3 : (w2.alloc (.cells #[.int .i64 (1 + x), .int .i64 0, .int .i64 0, .int .i64 0, .int .i64 0, .int .i64 0, .bool false] 32)).frozen? ⟨w2.heap.size, 3, none⟩ = false := var_frozen _ _ _ _
    have e_f4 : (w2.alloc (.cells #[.int .i64 (1 + x), .int .i64 0, .int .i64 0, .int .i64 0, .int .i64 0, .int .i64 0, .bool false] 32)).frozen? ⟨w2.heap.size, 4, none⟩ = false := var_frozen _ _ _ _
    have e_f5 : (w2.alloc (.cells #[.int .i64 (1 + x), .int .i64 0, .int .i64 0, .int .i64 0, .int .i64 0, .int .i64 0, .bool false] 32)).frozen? ⟨w2.heap.size, 5, none⟩ = false := var_frozen _ _ _ _
    have e_f6 : (w2.alloc (.cells #[.int .i64 (1 + x), .int .i64 0, .int .i64 0, .int .i64 0, .int .i64 0, .int .i64 0, .bool false] 32)).frozen? ⟨w2.heap.size, 6, none⟩ = false := var_frozen _ _ _ _
    generalize (w2.alloc (.cells #[.int .i64 (1 + x), .int .i64 0, .int .i64 0, .int .i64 0, .int .i64 0, .int .i64 0, .bool false] 32)) = w3 at *
    have hz3 : w2.heap.size ≤ w3.heap.size := he3.size
    have E3 : Eff g (g + 1) W w3 := E2.step he3 (by omega)
    have S3 := E3.size
    replace zr := zr.keep he3 (by omega)
    replace res_l := Nat.lt_of_lt_of_le res_l hz3
    replace hc := hc.keep he3 (by omega) (by omega)
    have e_l : w2.heap.size < w3.heap.size := (by omega)
    have hVH : w2.heap.size < w3.heap.size := by omega
    clear hs3
    refine (l04HasC (1 + x) q0 q1 w3.heap.size w3 rfl).mono ?_
    rintro e w4 ⟨rfl, h_0, h_1, h_2, h_3, h_4, h_5, he⟩
    rw [HP.out] at h_0 h_1 h_2 h_3 h_4 h_5
    have he4 : Eff (0) (0) w3 w4 := he
    have hz4 : w3.heap.size ≤ w4.heap.size := he4.size
    have E4 : Eff g (g + 1) W w4 := E3.step he4 (by omega)
    have S4 := E4.size
    replace zr := zr.keep he4 (by omega)
    replace e_f0 := (he4.frozen e_0 (by simp only; omega)).trans e_f0
    replace e_f1 := (he4.frozen e_1 (by simp only; omega)).trans e_f1
    replace e_f2 := (he4.frozen e_2 (by simp only; omega)).trans e_f2
    replace e_f3 := (he4.frozen e_3 (by simp only; omega)).trans e_f3
    replace e_f4 := (he4.frozen e_4 (by simp only; omega)).trans e_f4
    replace e_f5 := (he4.frozen e_5 (by simp only; omega)).trans e_f5
    replace e_f6 := (he4.frozen e_6 (by simp only; omega)).trans e_f6
    replace e_0 := he4.cell e_0 (by simp only; omega)
    replace e_1 := he4.cell e_1 (by simp only; omega)
    replace e_2 := he4.cell e_2 (by simp only; omega)
    replace e_3 := he4.cell e_3 (by simp only; omega)
    replace e_4 := he4.cell e_4 (by simp only; omega)
    replace e_5 := he4.cell e_5 (by simp only; omega)
    replace e_6 := he4.cell e_6 (by simp only; omega)
    replace res_l := Nat.lt_of_lt_of_le res_l hz4
    replace e_l := Nat.lt_of_lt_of_le e_l hz4
    replace hc := hc.keep he4 (by omega) (by omega)
    clear he
    have h_l : w3.heap.size < w4.heap.size := World.block_lt_of_cell? _ _ h_0
    go_wp2_with fail
    refine (l01Below_any B g (400) (by omega) w4 hc).mono ?_
    rintro e w5 hpost
    obtain ⟨m, rfl, ⟨m_0, m_1, -⟩, hc, he⟩ := hpost.eff
    clear hpost
    replace m_1 := m_1 (by omega)
    have he5 : Eff (g) (g + 1) w4 w5 := he
    have hz5 : w4.heap.size ≤ w5.heap.size := he5.size
    have E5 : Eff g (g + 1) W w5 := E4.step he5 (by omega)
    have S5 := E5.size
    replace zr := zr.keep he5 (by omega)
    replace e_f0 := (he5.frozen e_0 (by simp only; omega)).trans e_f0
    replace e_f1 := (he5.frozen e_1 (by simp only; omega)).trans e_f1
    replace e_f2 := (he5.frozen e_2 (by simp only; omega)).trans e_f2
    replace e_f3 := (he5.frozen e_3 (by simp only; omega)).trans e_f3
    replace e_f4 := (he5.frozen e_4 (by simp only; omega)).trans e_f4
    replace e_f5 := (he5.frozen e_5 (by simp only; omega)).trans e_f5
    replace e_f6 := (he5.frozen e_6 (by simp only; omega)).trans e_f6
    replace e_0 := he5.cell e_0 (by simp only; omega)
    replace e_1 := he5.cell e_1 (by simp only; omega)
    replace e_2 := he5.cell e_2 (by simp only; omega)
    replace e_3 := he5.cell e_3 (by simp only; omega)
    replace e_4 := he5.cell e_4 (by simp only; omega)
    replace e_5 := he5.cell e_5 (by simp only; omega)
    replace e_6 := he5.cell e_6 (by simp only; omega)
    replace h_0 := he5.cell h_0 (by simp only; omega)
    replace h_1 := he5.cell h_1 (by simp only; omega)
    replace h_2 := he5.cell h_2 (by simp only; omega)
    replace h_3 := he5.cell h_3 (by simp only; omega)
    replace h_4 := he5.cell h_4 (by simp only; omega)
    replace h_5 := he5.cell h_5 (by simp only; omega)
    replace res_l := Nat.lt_of_lt_of_le res_l hz5
    replace e_l := Nat.lt_of_lt_of_le e_l hz5
    clear he
    go_upto_region 12 with fail
    clear h_0
    clear h_1
    clear h_2
    have he6 : Eff (w2.heap.size) (w2.heap.size + 1) w5 (w5.setCell ⟨w2.heap.size, 4, none⟩ (.int .i64 (1 + m * 25))) := eff_set _ _ _ _
    replace e_f0 := set_frozen (p := ⟨w2.heap.size, 4, none⟩) e_f0 (.int .i64 (1 + m * 25))
    replace e_f1 := set_frozen (p := ⟨w2.heap.size, 4, none⟩) e_f1 (.int .i64 (1 + m * 25))
    replace e_f2 := set_frozen (p := ⟨w2.heap.size, 4, none⟩) e_f2 (.int .i64 (1 + m * 25))
    replace e_f3 := set_frozen (p := ⟨w2.heap.size, 4, none⟩) e_f3 (.int .i64 (1 + m * 25))
    replace e_f4 := set_frozen (p := ⟨w2.heap.size, 4, none⟩) e_f4 (.int .i64 (1 + m * 25))
    replace e_f5 := set_frozen (p := ⟨w2.heap.size, 4, none⟩) e_f5 (.int .i64 (1 + m * 25))
    replace e_f6 := set_frozen (p := ⟨w2.heap.size, 4, none⟩) e_f6 (.int .i64 (1 + m * 25))
    replace e_0 := set_other (b' := w2.heap.size) (o' := 4) e_0 (.int .i64 (1 + m * 25)) (.inr (by omega))
    replace e_1 := set_other (b' := w2.heap.size) (o' := 4) e_1 (.int .i64 (1 + m * 25)) (.inr (by omega))
    replace e_2 := set_other (b' := w2.heap.size) (o' := 4) e_2 (.int .i64 (1 + m * 25)) (.inr (by omega))
    replace e_3 := set_other (b' := w2.heap.size) (o' := 4) e_3 (.int .i64 (1 + m * 25)) (.inr (by omega))
    replace e_4 := set_same e_4 (.int .i64 (1 + m * 25))
    replace e_5 := set_other (b' := w2.heap.size) (o' := 4) e_5 (.int .i64 (1 + m * 25)) (.inr (by omega))
    replace e_6 := set_other (b' := w2.heap.size) (o' := 4) e_6 (.int .i64 (1 + m * 25)) (.inr (by omega))
    replace h_3 := he6.cell h_3 (by simp only; omega)
    replace h_4 := he6.cell h_4 (by simp only; omega)
    replace h_5 := he6.cell h_5 (by simp only; omega)
    have hz6 : w5.heap.size ≤ (w5.setCell ⟨w2.heap.size, 4, none⟩ (.int .i64 (1 + m * 25))).heap.size := he6.size
    generalize (w5.setCell ⟨w2.heap.size, 4, none⟩ (.int .i64 (1 + m * 25))) = w6 at *
    have E6 : Eff g (g + 1) W w6 := E5.step he6 (by omega)
    have S6 := E6.size
    replace zr := zr.keep he6 (by omega)
    replace res_l := Nat.lt_of_lt_of_le res_l hz6
    replace e_l := Nat.lt_of_lt_of_le e_l hz6
    replace hc := hc.keep he6 (by omega) (by omega)
    go_upto_region 15 with fail
    clear h_4
    clear h_5
    have he7 : Eff (w2.heap.size) (w2.heap.size + 1) w6 (w6.setCell ⟨w2.heap.size, 6, none⟩ (.bool false)) := eff_set _ _ _ _
    replace e_f0 := set_frozen (p := ⟨w2.heap.size, 6, none⟩) e_f0 (.bool false)
    replace e_f1 := set_frozen (p := ⟨w2.heap.size, 6, none⟩) e_f1 (.bool false)
    replace e_f2 := set_frozen (p := ⟨w2.heap.size, 6, none⟩) e_f2 (.bool false)
    replace e_f3 := set_frozen (p := ⟨w2.heap.size, 6, none⟩) e_f3 (.bool false)
    replace e_f4 := set_frozen (p := ⟨w2.heap.size, 6, none⟩) e_f4 (.bool false)
    replace e_f5 := set_frozen (p := ⟨w2.heap.size, 6, none⟩) e_f5 (.bool false)
    replace e_f6 := set_frozen (p := ⟨w2.heap.size, 6, none⟩) e_f6 (.bool false)
    replace e_0 := set_other (b' := w2.heap.size) (o' := 6) e_0 (.bool false) (.inr (by omega))
    replace e_1 := set_other (b' := w2.heap.size) (o' := 6) e_1 (.bool false) (.inr (by omega))
    replace e_2 := set_other (b' := w2.heap.size) (o' := 6) e_2 (.bool false) (.inr (by omega))
    replace e_3 := set_other (b' := w2.heap.size) (o' := 6) e_3 (.bool false) (.inr (by omega))
    replace e_4 := set_other (b' := w2.heap.size) (o' := 6) e_4 (.bool false) (.inr (by omega))
    replace e_5 := set_other (b' := w2.heap.size) (o' := 6) e_5 (.bool false) (.inr (by omega))
    replace e_6 := set_same e_6 (.bool false)
    replace h_3 := he7.cell h_3 (by simp only; omega)
    have hz7 : w6.heap.size ≤ (w6.setCell ⟨w2.heap.size, 6, none⟩ (.bool false)).heap.size := he7.size
    generalize (w6.setCell ⟨w2.heap.size, 6, none⟩ (.bool false)) = w7 at *
    have E7 : Eff g (g + 1) W w7 := E6.step he7 (by omega)
    have S7 := E7.size
    replace zr := zr.keep he7 (by omega)
    replace res_l := Nat.lt_of_lt_of_le res_l hz7
    replace e_l := Nat.lt_of_lt_of_le e_l hz7
    replace hc := hc.keep he7 (by omega) (by omega)
    go_wp2_with fail
    refine (l01Below_any B g (14) (by omega) w7 hc).mono ?_
    rintro e w8 hpost
    obtain ⟨q, rfl, ⟨q_0, q_1, -⟩, hc, he⟩ := hpost.eff
    clear hpost
    replace q_1 := q_1 (by omega)
    have he8 : Eff (g) (g + 1) w7 w8 := he
    have hz8 : w7.heap.size ≤ w8.heap.size := he8.size
    have E8 : Eff g (g + 1) W w8 := E7.step he8 (by omega)
    have S8 := E8.size
    replace zr := zr.keep he8 (by omega)
    replace e_f0 := (he8.frozen e_0 (by simp only; omega)).trans e_f0
    replace e_f1 := (he8.frozen e_1 (by simp only; omega)).trans e_f1
    replace e_f2 := (he8.frozen e_2 (by simp only; omega)).trans e_f2
    replace e_f3 := (he8.frozen e_3 (by simp only; omega)).trans e_f3
    replace e_f4 := (he8.frozen e_4 (by simp only; omega)).trans e_f4
    replace e_f5 := (he8.frozen e_5 (by simp only; omega)).trans e_f5
    replace e_f6 := (he8.frozen e_6 (by simp only; omega)).trans e_f6
    replace e_0 := he8.cell e_0 (by simp only; omega)
    replace e_1 := he8.cell e_1 (by simp only; omega)
    replace e_2 := he8.cell e_2 (by simp only; omega)
    replace e_3 := he8.cell e_3 (by simp only; omega)
    replace e_4 := he8.cell e_4 (by simp only; omega)
    replace e_5 := he8.cell e_5 (by simp only; omega)
    replace e_6 := he8.cell e_6 (by simp only; omega)
    replace h_3 := he8.cell h_3 (by simp only; omega)
    replace res_l := Nat.lt_of_lt_of_le res_l hz8
    replace e_l := Nat.lt_of_lt_of_le e_l hz8
    clear he
    by_cases hq : q = 0
    · skip
      subst hq
      go_wp2_with fail
      refine (l01Below_any B g (2) (by omega) w8 hc).mono ?_
      rintro e w9 hpost
      obtain ⟨r, rfl, ⟨r_0, r_1, -⟩, hc, he⟩ := hpost.eff
      clear hpost
      replace r_1 := r_1 (by omega)
      have he9 : Eff (g) (g + 1) w8 w9 := he
      have hz9 : w8.heap.size ≤ w9.heap.size := he9.size
      have E9 : Eff g (g + 1) W w9 := E8.step he9 (by omega)
      have S9 := E9.size
      replace zr := zr.keep he9 (by omega)
      replace e_f0 := (he9.frozen e_0 (by simp only; omega)).trans e_f0
      replace e_f1 := (he9.frozen e_1 (by simp only; omega)).trans e_f1
      replace e_f2 := (he9.frozen e_2 (by simp only; omega)).trans e_f2
      replace e_f3 := (he9.frozen e_3 (by simp only; omega)).trans e_f3
      replace e_f4 := (he9.frozen e_4 (by simp only; omega)).trans e_f4
      replace e_f5 := (he9.frozen e_5 (by simp only; omega)).trans e_f5
      replace e_f6 := (he9.frozen e_6 (by simp only; omega)).trans e_f6
      replace e_0 := he9.cell e_0 (by simp only; omega)
      replace e_1 := he9.cell e_1 (by simp only; omega)
      replace e_2 := he9.cell e_2 (by simp only; omega)
      replace e_3 := he9.cell e_3 (by simp only; omega)
      replace e_4 := he9.cell e_4 (by simp only; omega)
      replace e_5 := he9.cell e_5 (by simp only; omega)
      replace e_6 := he9.cell e_6 (by simp only; omega)
      replace h_3 := he9.cell h_3 (by simp only; omega)
      replace res_l := Nat.lt_of_lt_of_le res_l hz9
      replace e_l := Nat.lt_of_lt_of_le e_l hz9
      clear he
      go_upto_region 17 with fail
      have he10 : Eff (w2.heap.size) (w2.heap.size + 1) w9 (w9.setCell ⟨w2.heap.size, 4, none⟩ (.int .i64 (1125899906842624 - r))) := eff_set _ _ _ _
      replace e_f0 := set_frozen (p := ⟨w2.heap.size, 4, none⟩) e_f0 (.int .i64 (1125899906842624 - r))
      replace e_f1 := set_frozen (p := ⟨w2.heap.size, 4, none⟩) e_f1 (.int .i64 (1125899906842624 - r))
      replace e_f2 := set_frozen (p := ⟨w2.heap.size, 4, none⟩) e_f2 (.int .i64 (1125899906842624 - r))
      replace e_f3 := set_frozen (p := ⟨w2.heap.size, 4, none⟩) e_f3 (.int .i64 (1125899906842624 - r))
      replace e_f4 := set_frozen (p := ⟨w2.heap.size, 4, none⟩) e_f4 (.int .i64 (1125899906842624 - r))
      replace e_f5 := set_frozen (p := ⟨w2.heap.size, 4, none⟩) e_f5 (.int .i64 (1125899906842624 - r))
      replace e_f6 := set_frozen (p := ⟨w2.heap.size, 4, none⟩) e_f6 (.int .i64 (1125899906842624 - r))
      replace e_0 := set_other (b' := w2.heap.size) (o' := 4) e_0 (.int .i64 (1125899906842624 - r)) (.inr (by omega))
      replace e_1 := set_other (b' := w2.heap.size) (o' := 4) e_1 (.int .i64 (1125899906842624 - r)) (.inr (by omega))
      replace e_2 := set_other (b' := w2.heap.size) (o' := 4) e_2 (.int .i64 (1125899906842624 - r)) (.inr (by omega))
      replace e_3 := set_other (b' := w2.heap.size) (o' := 4) e_3 (.int .i64 (1125899906842624 - r)) (.inr (by omega))
      replace e_4 := set_same e_4 (.int .i64 (1125899906842624 - r))
      replace e_5 := set_other (b' := w2.heap.size) (o' := 4) e_5 (.int .i64 (1125899906842624 - r)) (.inr (by omega))
      replace e_6 := set_other (b' := w2.heap.size) (o' := 4) e_6 (.int .i64 (1125899906842624 - r)) (.inr (by omega))
      replace h_3 := he10.cell h_3 (by simp only; omega)
      have hz10 : w9.heap.size ≤ (w9.setCell ⟨w2.heap.size, 4, none⟩ (.int .i64 (1125899906842624 - r))).heap.size := he10.size
      generalize (w9.setCell ⟨w2.heap.size, 4, none⟩ (.int .i64 (1125899906842624 - r))) = w10 at *
      have E10 : Eff g (g + 1) W w10 := E9.step he10 (by omega)
      have S10 := E10.size
      replace zr := zr.keep he10 (by omega)
      replace res_l := Nat.lt_of_lt_of_le res_l hz10
      replace e_l := Nat.lt_of_lt_of_le e_l hz10
      replace hc := hc.keep he10 (by omega) (by omega)
      obtain ⟨res_0, res_1, res_2, res_3, res_4, res_5, res_6, res_f0, res_f1, res_f2, res_f3, res_f4, res_f5, res_f6⟩ := zr
      go_wp2_with fail
      have r0 : (((((((w10.setCell ⟨W.heap.size, 0, none⟩ (.int .i64 (1 + x))).setCell ⟨W.heap.size, 1, none⟩ (.int .i64 0)).setCell ⟨W.heap.size, 2, none⟩ (.int .i64 0)).setCell ⟨W.heap.size, 3, none⟩ (.int .i64 0)).setCell ⟨W.heap.size, 4, none⟩ (.int .i64 (1125899906842624 - r))).setCell ⟨W.heap.size, 5, none⟩ (.int .i64 0)).setCell ⟨W.heap.size, 6, none⟩ (.bool false)).cell? ⟨W.heap.size, 0, none⟩ = some (.int .i64 (1 + x)) := set_other (set_other (set_other (set_other (set_other (set_other (set_same (res_0) _) _ (.inr (by omega))) _ (.inr (by omega))) _ (.inr (by omega))) _ (.inr (by omega))) _ (.inr (by omega))) _ (.inr (by omega))
      have r1 : (((((((w10.setCell ⟨W.heap.size, 0, none⟩ (.int .i64 (1 + x))).setCell ⟨W.heap.size, 1, none⟩ (.int .i64 0)).setCell ⟨W.heap.size, 2, none⟩ (.int .i64 0)).setCell ⟨W.heap.size, 3, none⟩ (.int .i64 0)).setCell ⟨W.heap.size, 4, none⟩ (.int .i64 (1125899906842624 - r))).setCell ⟨W.heap.size, 5, none⟩ (.int .i64 0)).setCell ⟨W.heap.size, 6, none⟩ (.bool false)).cell? ⟨W.heap.size, 1, none⟩ = some (.int .i64 0) := set_other (set_other (set_other (set_other (set_other (set_same (set_other (res_1) _ (.inr (by omega))) _) _ (.inr (by omega))) _ (.inr (by omega))) _ (.inr (by omega))) _ (.inr (by omega))) _ (.inr (by omega))
      have r2 : (((((((w10.setCell ⟨W.heap.size, 0, none⟩ (.int .i64 (1 + x))).setCell ⟨W.heap.size, 1, none⟩ (.int .i64 0)).setCell ⟨W.heap.size, 2, none⟩ (.int .i64 0)).setCell ⟨W.heap.size, 3, none⟩ (.int .i64 0)).setCell ⟨W.heap.size, 4, none⟩ (.int .i64 (1125899906842624 - r))).setCell ⟨W.heap.size, 5, none⟩ (.int .i64 0)).setCell ⟨W.heap.size, 6, none⟩ (.bool false)).cell? ⟨W.heap.size, 2, none⟩ = some (.int .i64 0) := set_other (set_other (set_other (set_other (set_same (set_other (set_other (res_2) _ (.inr (by omega))) _ (.inr (by omega))) _) _ (.inr (by omega))) _ (.inr (by omega))) _ (.inr (by omega))) _ (.inr (by omega))
      have r3 : (((((((w10.setCell ⟨W.heap.size, 0, none⟩ (.int .i64 (1 + x))).setCell ⟨W.heap.size, 1, none⟩ (.int .i64 0)).setCell ⟨W.heap.size, 2, none⟩ (.int .i64 0)).setCell ⟨W.heap.size, 3, none⟩ (.int .i64 0)).setCell ⟨W.heap.size, 4, none⟩ (.int .i64 (1125899906842624 - r))).setCell ⟨W.heap.size, 5, none⟩ (.int .i64 0)).setCell ⟨W.heap.size, 6, none⟩ (.bool false)).cell? ⟨W.heap.size, 3, none⟩ = some (.int .i64 0) := set_other (set_other (set_other (set_same (set_other (set_other (set_other (res_3) _ (.inr (by omega))) _ (.inr (by omega))) _ (.inr (by omega))) _) _ (.inr (by omega))) _ (.inr (by omega))) _ (.inr (by omega))
      have r4 : (((((((w10.setCell ⟨W.heap.size, 0, none⟩ (.int .i64 (1 + x))).setCell ⟨W.heap.size, 1, none⟩ (.int .i64 0)).setCell ⟨W.heap.size, 2, none⟩ (.int .i64 0)).setCell ⟨W.heap.size, 3, none⟩ (.int .i64 0)).setCell ⟨W.heap.size, 4, none⟩ (.int .i64 (1125899906842624 - r))).setCell ⟨W.heap.size, 5, none⟩ (.int .i64 0)).setCell ⟨W.heap.size, 6, none⟩ (.bool false)).cell? ⟨W.heap.size, 4, none⟩ = some (.int .i64 (1125899906842624 - r)) := set_other (set_other (set_same (set_other (set_other (set_other (set_other (res_4) _ (.inr (by omega))) _ (.inr (by omega))) _ (.inr (by omega))) _ (.inr (by omega))) _) _ (.inr (by omega))) _ (.inr (by omega))
      have r5 : (((((((w10.setCell ⟨W.heap.size, 0, none⟩ (.int .i64 (1 + x))).setCell ⟨W.heap.size, 1, none⟩ (.int .i64 0)).setCell ⟨W.heap.size, 2, none⟩ (.int .i64 0)).setCell ⟨W.heap.size, 3, none⟩ (.int .i64 0)).setCell ⟨W.heap.size, 4, none⟩ (.int .i64 (1125899906842624 - r))).setCell ⟨W.heap.size, 5, none⟩ (.int .i64 0)).setCell ⟨W.heap.size, 6, none⟩ (.bool false)).cell? ⟨W.heap.size, 5, none⟩ = some (.int .i64 0) := set_other (set_same (set_other (set_other (set_other (set_other (set_other (res_5) _ (.inr (by omega))) _ (.inr (by omega))) _ (.inr (by omega))) _ (.inr (by omega))) _ (.inr (by omega))) _) _ (.inr (by omega))
      have r6 : (((((((w10.setCell ⟨W.heap.size, 0, none⟩ (.int .i64 (1 + x))).setCell ⟨W.heap.size, 1, none⟩ (.int .i64 0)).setCell ⟨W.heap.size, 2, none⟩ (.int .i64 0)).setCell ⟨W.heap.size, 3, none⟩ (.int .i64 0)).setCell ⟨W.heap.size, 4, none⟩ (.int .i64 (1125899906842624 - r))).setCell ⟨W.heap.size, 5, none⟩ (.int .i64 0)).setCell ⟨W.heap.size, 6, none⟩ (.bool false)).cell? ⟨W.heap.size, 6, none⟩ = some (.bool false) := set_same (set_other (set_other (set_other (set_other (set_other (set_other (res_6) _ (.inr (by omega))) _ (.inr (by omega))) _ (.inr (by omega))) _ (.inr (by omega))) _ (.inr (by omega))) _ (.inr (by omega))) _
      refine bodyPost_ret (v := .agg #[.int .i64 (1 + x), .int .i64 0, .int .i64 0, .int .i64 0, .int .i64 (1125899906842624 - r), .int .i64 0, .bool false]) (by simp [results, Tryd.results63, go_sem, r0, r1, r2, r3, r4, r5, r6]) rfl ?_
      exact EvPost.mk E10 hc (eff_set7 _ _ _ _ _ _ _ _ _) (by omega) (by omega)
    · skip
      have hq0 : (q == 0) = false := by simp; omega
      obtain ⟨res_0, res_1, res_2, res_3, res_4, res_5, res_6, res_f0, res_f1, res_f2, res_f3, res_f4, res_f5, res_f6⟩ := zr
      go_wp2_with fail
      have r0 : (((((((w8.setCell ⟨W.heap.size, 0, none⟩ (.int .i64 (1 + x))).setCell ⟨W.heap.size, 1, none⟩ (.int .i64 0)).setCell ⟨W.heap.size, 2, none⟩ (.int .i64 0)).setCell ⟨W.heap.size, 3, none⟩ (.int .i64 0)).setCell ⟨W.heap.size, 4, none⟩ (.int .i64 (1 + m * 25))).setCell ⟨W.heap.size, 5, none⟩ (.int .i64 0)).setCell ⟨W.heap.size, 6, none⟩ (.bool false)).cell? ⟨W.heap.size, 0, none⟩ = some (.int .i64 (1 + x)) := set_other (set_other (set_other (set_other (set_other (set_other (set_same (res_0) _) _ (.inr (by omega))) _ (.inr (by omega))) _ (.inr (by omega))) _ (.inr (by omega))) _ (.inr (by omega))) _ (.inr (by omega))
      have r1 : (((((((w8.setCell ⟨W.heap.size, 0, none⟩ (.int .i64 (1 + x))).setCell ⟨W.heap.size, 1, none⟩ (.int .i64 0)).setCell ⟨W.heap.size, 2, none⟩ (.int .i64 0)).setCell ⟨W.heap.size, 3, none⟩ (.int .i64 0)).setCell ⟨W.heap.size, 4, none⟩ (.int .i64 (1 + m * 25))).setCell ⟨W.heap.size, 5, none⟩ (.int .i64 0)).setCell ⟨W.heap.size, 6, none⟩ (.bool false)).cell? ⟨W.heap.size, 1, none⟩ = some (.int .i64 0) := set_other (set_other (set_other (set_other (set_other (set_same (set_other (res_1) _ (.inr (by omega))) _) _ (.inr (by omega))) _ (.inr (by omega))) _ (.inr (by omega))) _ (.inr (by omega))) _ (.inr (by omega))
      have r2 : (((((((w8.setCell ⟨W.heap.size, 0, none⟩ (.int .i64 (1 + x))).setCell ⟨W.heap.size, 1, none⟩ (.int .i64 0)).setCell ⟨W.heap.size, 2, none⟩ (.int .i64 0)).setCell ⟨W.heap.size, 3, none⟩ (.int .i64 0)).setCell ⟨W.heap.size, 4, none⟩ (.int .i64 (1 + m * 25))).setCell ⟨W.heap.size, 5, none⟩ (.int .i64 0)).setCell ⟨W.heap.size, 6, none⟩ (.bool false)).cell? ⟨W.heap.size, 2, none⟩ = some (.int .i64 0) := set_other (set_other (set_other (set_other (set_same (set_other (set_other (res_2) _ (.inr (by omega))) _ (.inr (by omega))) _) _ (.inr (by omega))) _ (.inr (by omega))) _ (.inr (by omega))) _ (.inr (by omega))
      have r3 : (((((((w8.setCell ⟨W.heap.size, 0, none⟩ (.int .i64 (1 + x))).setCell ⟨W.heap.size, 1, none⟩ (.int .i64 0)).setCell ⟨W.heap.size, 2, none⟩ (.int .i64 0)).setCell ⟨W.heap.size, 3, none⟩ (.int .i64 0)).setCell ⟨W.heap.size, 4, none⟩ (.int .i64 (1 + m * 25))).setCell ⟨W.heap.size, 5, none⟩ (.int .i64 0)).setCell ⟨W.heap.size, 6, none⟩ (.bool false)).cell? ⟨W.heap.size, 3, none⟩ = some (.int .i64 0) := set_other (set_other (set_other (set_same (set_other (set_other (set_other (res_3) _ (.inr (by omega))) _ (.inr (by omega))) _ (.inr (by omega))) _) _ (.inr (by omega))) _ (.inr (by omega))) _ (.inr (by omega))
      have r4 : (((((((w8.setCell ⟨W.heap.size, 0, none⟩ (.int .i64 (1 + x))).setCell ⟨W.heap.size, 1, none⟩ (.int .i64 0)).setCell ⟨W.heap.size, 2, none⟩ (.int .i64 0)).setCell ⟨W.heap.size, 3, none⟩ (.int .i64 0)).setCell ⟨W.heap.size, 4, none⟩ (.int .i64 (1 + m * 25))).setCell ⟨W.heap.size, 5, none⟩ (.int .i64 0)).setCell ⟨W.heap.size, 6, none⟩ (.bool false)).cell? ⟨W.heap.size, 4, none⟩ = some (.int .i64 (1 + m * 25)) := set_other (set_other (set_same (set_other (set_other (set_other (set_other (res_4) _ (.inr (by omega))) _ (.inr (by omega))) _ (.inr (by omega))) _ (.inr (by omega))) _) _ (.inr (by omega))) _ (.inr (by omega))
      have r5 : (((((((w8.setCell ⟨W.heap.size, 0, none⟩ (.int .i64 (1 + x))).setCell ⟨W.heap.size, 1, none⟩ (.int .i64 0)).setCell ⟨W.heap.size, 2, none⟩ (.int .i64 0)).setCell ⟨W.heap.size, 3, none⟩ (.int .i64 0)).setCell ⟨W.heap.size, 4, none⟩ (.int .i64 (1 + m * 25))).setCell ⟨W.heap.size, 5, none⟩ (.int .i64 0)).setCell ⟨W.heap.size, 6, none⟩ (.bool false)).cell? ⟨W.heap.size, 5, none⟩ = some (.int .i64 0) := set_other (set_same (set_other (set_other (set_other (set_other (set_other (res_5) _ (.inr (by omega))) _ (.inr (by omega))) _ (.inr (by omega))) _ (.inr (by omega))) _ (.inr (by omega))) _) _ (.inr (by omega))
      have r6 : (((((((w8.setCell ⟨W.heap.size, 0, none⟩ (.int .i64 (1 + x))).setCell ⟨W.heap.size, 1, none⟩ (.int .i64 0)).setCell ⟨W.heap.size, 2, none⟩ (.int .i64 0)).setCell ⟨W.heap.size, 3, none⟩ (.int .i64 0)).setCell ⟨W.heap.size, 4, none⟩ (.int .i64 (1 + m * 25))).setCell ⟨W.heap.size, 5, none⟩ (.int .i64 0)).setCell ⟨W.heap.size, 6, none⟩ (.bool false)).cell? ⟨W.heap.size, 6, none⟩ = some (.bool false) := set_same (set_other (set_other (set_other (set_other (set_other (set_other (res_6) _ (.inr (by omega))) _ (.inr (by omega))) _ (.inr (by omega))) _ (.inr (by omega))) _ (.inr (by omega))) _ (.inr (by omega))) _
      refine bodyPost_ret (v := .agg #[.int .i64 (1 + x), .int .i64 0, .int .i64 0, .int .i64 0, .int .i64 (1 + m * 25), .int .i64 0, .bool false]) (by simp [results, Tryd.results63, go_sem, r0, r1, r2, r3, r4, r5, r6]) rfl ?_
      exact EvPost.mk E8 hc (eff_set7 _ _ _ _ _ _ _ _ _) (by omega) (by omega)
  · skip
    have HP := Lib.hid hp
    clear hp
    go_wp2_with fail
    have he3 : Eff 0 0 w2 (w2.alloc (.cells #[.int .i64 (1 + x), .int .i64 0, .int .i64 0, .int .i64 0, .int .i64 0, .int .i64 0, .bool false] 32)) := Eff.alloc _ _
    have hs3 : (w2.alloc (.cells #[.int .i64 (1 + x), .int .i64 0, .int .i64 0, .int .i64 0, .int .i64 0, .int .i64 0, .bool false] 32)).heap.size = w2.heap.size + 1 := (by simp)
    have e_0 : (w2.alloc (.cells #[.int .i64 (1 + x), .int .i64 0, .int .i64 0, .int .i64 0, .int .i64 0, .int .i64 0, .bool false] 32)).cell? ⟨w2.heap.size, 0, none⟩ = some (.int .i64 (1 + x)) := var_cell _ _ _ _ _ rfl
    have e_1 : (w2.alloc (.cells #[.int .i64 (1 + x), .int .i64 0, .int .i64 0, .int .i64 0, .int .i64 0, .int .i64 0, .bool false] 32)).cell? ⟨w2.heap.size, 1, none⟩ = some (.int .i64 0) := var_cell _ _ _ _ _ rfl
    have e_2 : (w2.alloc (.cells #[.int .i64 (1 + x), .int .i64 0, .int .i64 0, .int .i64 0, .int .i64 0, .int .i64 0, .bool false] 32)).cell? ⟨w2.heap.size, 2, none⟩ = some (.int .i64 0) := var_cell _ _ _ _ _ rfl
    have e_3 : (w2.alloc (.cells #[.int .i64 (1 + x), .int .i64 0, .int .i64 0, .int .i64 0, .int .i64 0, .int .i64 0, .bool false] 32)).cell? ⟨w2.heap.size, 3, none⟩ = some (.int .i64 0) := var_cell _ _ _ _ _ rfl
    have e_4 : (w2.alloc (.cells #[.int .i64 (1 + x), .int .i64 0, .int .i64 0, .int .i64 0, .int .i64 0, .int .i64 0, .bool false] 32)).cell? ⟨w2.heap.size, 4, none⟩ = some (.int .i64 0) := var_cell _ _ _ _ _ rfl
    have e_5 : (w2.alloc (.cells #[.int .i64 (1 + x), .int .i64 0, .int .i64 0, .int .i64 0, .int .i64 0, .int .i64 0, .bool false] 32)).cell? ⟨w2.heap.size, 5, none⟩ = some (.int .i64 0) := var_cell _ _ _ _ _ rfl
    have e_6 : (w2.alloc (.cells #[.int .i64 (1 + x), .int .i64 0, .int .i64 0, .int .i64 0, .int .i64 0, .int .i64 0, .bool false] 32)).cell? ⟨w2.heap.size, 6, none⟩ = some (.bool false) := var_cell _ _ _ _ _ rfl
    have e_f0 : (w2.alloc (.cells #[.int .i64 (1 + x), .int .i64 0, .int .i64 0, .int .i64 0, .int .i64 0, .int .i64 0, .bool false] 32)).frozen? ⟨w2.heap.size, 0, none⟩ = false := var_frozen _ _ _ _
    have e_f1 : (w2.alloc (.cells #[.int .i64 (1 + x), .int .i64 0, .int .i64 0, .int .i64 0, .int .i64 0, .int .i64 0, .bool false] 32)).frozen? ⟨w2.heap.size, 1, none⟩ = false := var_frozen _ _ _ _
    have e_f2 : (w2.alloc (.cells #[.int .i64 (1 + x), .int .i64 0, .int .i64 0, .int .i64 0, .int .i64 0, .int .i64 0, .bool false] 32)).frozen? ⟨w2.heap.size, 2, none⟩ = false := var_frozen _ _ _ _
    have e_f3 : (w2.alloc (.cells #[.int .i64 (1 + x), .int .i64 0, .int .i64 0, .int .i64 0, .int .i64 0, .int .i64 0, .bool false] 32)).frozen? ⟨w2.heap.size, 3, none⟩ = false := var_frozen _ _ _ _
    have e_f4 : (w2.alloc (.cells #[.int .i64 (1 + x), .int .i64 0, .int .i64 0, .int .i64 0, .int .i64 0, .int .i64 0, .bool false] 32)).frozen? ⟨w2.heap.size, 4, none⟩ = false := var_frozen _ _ _ _
    have e_f5 : (w2.alloc (.cells #[.int .i64 (1 + x), .int .i64 0, .int .i64 0, .int .i64 0, .int .i64 0, .int .i64 0, .bool false] 32)).frozen? ⟨w2.heap.size, 5, none⟩ = false := var_frozen _ _ _ _
    have e_f6 : (w2.alloc (.cells #[.int .i64 (1 + x), .int .i64 0, .int .i64 0, .int .i64 0, .int .i64 0, .int .i64 0, .bool false] 32)).frozen? ⟨w2.heap.size, 6, none⟩ = false := var_frozen _ _ _ _
    generalize (w2.alloc (.cells #[.int .i64 (1 + x), .int .i64 0, .int .i64 0, .int .i64 0, .int .i64 0, .int .i64 0, .bool false] 32)) = w3 at *
    have hz3 : w2.heap.size ≤ w3.heap.size := he3.size
    have E3 : Eff g (g + 1) W w3 := E2.step he3 (by omega)
    have S3 := E3.size
    replace zr := zr.keep he3 (by omega)
    replace res_l := Nat.lt_of_lt_of_le res_l hz3
    replace hc := hc.keep he3 (by omega) (by omega)
    have e_l : w2.heap.size < w3.heap.size := (by omega)
    have hVH : w2.heap.size < w3.heap.size := by omega
    clear hs3
    refine (l04HasC (1 + x) q0 q1 w3.heap.size w3 rfl).mono ?_
    rintro e w4 ⟨rfl, h_0, h_1, h_2, h_3, h_4, h_5, he⟩
    rw [HP.out] at h_0 h_1 h_2 h_3 h_4 h_5
    have he4 : Eff (0) (0) w3 w4 := he
    have hz4 : w3.heap.size ≤ w4.heap.size := he4.size
    have E4 : Eff g (g + 1) W w4 := E3.step he4 (by omega)
    have S4 := E4.size
    replace zr := zr.keep he4 (by omega)
    replace e_f0 := (he4.frozen e_0 (by simp only; omega)).trans e_f0
    replace e_f1 := (he4.frozen e_1 (by simp only; omega)).trans e_f1
    replace e_f2 := (he4.frozen e_2 (by simp only; omega)).trans e_f2
    replace e_f3 := (he4.frozen e_3 (by simp only; omega)).trans e_f3
    replace e_f4 := (he4.frozen e_4 (by simp only; omega)).trans e_f4
    replace e_f5 := (he4.frozen e_5 (by simp only; omega)).trans e_f5
    replace e_f6 := (he4.frozen e_6 (by simp only; omega)).trans e_f6
    replace e_0 := he4.cell e_0 (by simp only; omega)
    replace e_1 := he4.cell e_1 (by simp only; omega)
    replace e_2 := he4.cell e_2 (by simp only; omega)
    replace e_3 := he4.cell e_3 (by simp only; omega)
    replace e_4 := he4.cell e_4 (by simp only; omega)
    replace e_5 := he4.cell e_5 (by simp only; omega)
    replace e_6 := he4.cell e_6 (by simp only; omega)
    replace res_l := Nat.lt_of_lt_of_le res_l hz4
    replace e_l := Nat.lt_of_lt_of_le e_l hz4
    replace hc := hc.keep he4 (by omega) (by omega)
    clear he
    have h_l : w3.heap.size < w4.heap.size := World.block_lt_of_cell? _ _ h_0
    go_wp2_with fail
    refine (l01Below_any B g (4) (by omega) w4 hc).mono ?_
    rintro e w5 hpost
    obtain ⟨b, rfl, ⟨b_0, b_1, -⟩, hc, he⟩ := hpost.eff
    clear hpost
    replace b_1 := b_1 (by omega)
    have he5 : Eff (g) (g + 1) w4 w5 := he
    have hz5 : w4.heap.size ≤ w5.heap.size := he5.size
    have E5 : Eff g (g + 1) W w5 := E4.step he5 (by omega)
    have S5 := E5.size
    replace zr := zr.keep he5 (by omega)
    replace e_f0 := (he5.frozen e_0 (by simp only; omega)).trans e_f0
    replace e_f1 := (he5.frozen e_1 (by simp only; omega)).trans e_f1
    replace e_f2 := (he5.frozen e_2 (by simp only; omega)).trans e_f2
    replace e_f3 := (he5.frozen e_3 (by simp only; omega)).trans e_f3
    replace e_f4 := (he5.frozen e_4 (by simp only; omega)).trans e_f4
    replace e_f5 := (he5.frozen e_5 (by simp only; omega)).trans e_f5
    replace e_f6 := (he5.frozen e_6 (by simp only; omega)).trans e_f6
    replace e_0 := he5.cell e_0 (by simp only; omega)
    replace e_1 := he5.cell e_1 (by simp only; omega)
    replace e_2 := he5.cell e_2 (by simp only; omega)
    replace e_3 := he5.cell e_3 (by simp only; omega)
    replace e_4 := he5.cell e_4 (by simp only; omega)
    replace e_5 := he5.cell e_5 (by simp only; omega)
    replace e_6 := he5.cell e_6 (by simp only; omega)
    replace h_0 := he5.cell h_0 (by simp only; omega)
    replace h_1 := he5.cell h_1 (by simp only; omega)
    replace h_2 := he5.cell h_2 (by simp only; omega)
    replace h_3 := he5.cell h_3 (by simp only; omega)
    replace h_4 := he5.cell h_4 (by simp only; omega)
    replace h_5 := he5.cell h_5 (by simp only; omega)
    replace res_l := Nat.lt_of_lt_of_le res_l hz5
    replace e_l := Nat.lt_of_lt_of_le e_l hz5
    clear he
    go_upto_region 8 with fail
    clear h_0
    clear h_1
    have he6 : Eff (w2.heap.size) (w2.heap.size + 1) w5 (w5.setCell ⟨w2.heap.size, 2, none⟩ (.int .i64 (1 + b))) := eff_set _ _ _ _
    replace e_f0 := set_frozen (p := ⟨w2.heap.size, 2, none⟩) e_f0 (.int .i64 (1 + b))
    replace e_f1 := set_frozen (p := ⟨w2.heap.size, 2, none⟩) e_f1 (.int .i64 (1 + b))
    replace e_f2 := set_frozen (p := ⟨w2.heap.size, 2, none⟩) e_f2 (.int .i64 (1 + b))
    replace e_f3 := set_frozen (p := ⟨w2.heap.size, 2, none⟩) e_f3 (.int .i64 (1 + b))
    replace e_f4 := set_frozen (p := ⟨w2.heap.size, 2, none⟩) e_f4 (.int .i64 (1 + b))
    replace e_f5 := set_frozen (p := ⟨w2.heap.size, 2, none⟩) e_f5 (.int .i64 (1 + b))
    replace e_f6 := set_frozen (p := ⟨w2.heap.size, 2, none⟩) e_f6 (.int .i64 (1 + b))
    replace e_0 := set_other (b' := w2.heap.size) (o' := 2) e_0 (.int .i64 (1 + b)) (.inr (by omega))
    replace e_1 := set_other (b' := w2.heap.size) (o' := 2) e_1 (.int .i64 (1 + b)) (.inr (by omega))
    replace e_2 := set_same e_2 (.int .i64 (1 + b))
    replace e_3 := set_other (b' := w2.heap.size) (o' := 2) e_3 (.int .i64 (1 + b)) (.inr (by omega))
    replace e_4 := set_other (b' := w2.heap.size) (o' := 2) e_4 (.int .i64 (1 + b)) (.inr (by omega))
    replace e_5 := set_other (b' := w2.heap.size) (o' := 2) e_5 (.int .i64 (1 + b)) (.inr (by omega))
    replace e_6 := set_other (b' := w2.heap.size) (o' := 2) e_6 (.int .i64 (1 + b)) (.inr (by omega))
    replace h_2 := he6.cell h_2 (by simp only; omega)
    replace h_3 := he6.cell h_3 (by simp only; omega)
    replace h_4 := he6.cell h_4 (by simp only; omega)
    replace h_5 := he6.cell h_5 (by simp only; omega)
    have hz6 : w5.heap.size ≤ (w5.setCell ⟨w2.heap.size, 2, none⟩ (.int .i64 (1 + b))).heap.size := he6.size
    generalize (w5.setCell ⟨w2.heap.size, 2, none⟩ (.int .i64 (1 + b))) = w6 at *
    have E6 : Eff g (g + 1) W w6 := E5.step he6 (by omega)
    have S6 := E6.size
    replace zr := zr.keep he6 (by omega)
    replace res_l := Nat.lt_of_lt_of_le res_l hz6
    replace e_l := Nat.lt_of_lt_of_le e_l hz6
    replace hc := hc.keep he6 (by omega) (by omega)
    go_wp2_with fail
    refine (l01Below_any B g (400) (by omega) w6 hc).mono ?_
    rintro e w7 hpost
    obtain ⟨m, rfl, ⟨m_0, m_1, -⟩, hc, he⟩ := hpost.eff
    clear hpost
    replace m_1 := m_1 (by omega)
    have he7 : Eff (g) (g + 1) w6 w7 := he
    have hz7 : w6.heap.size ≤ w7.heap.size := he7.size
    have E7 : Eff g (g + 1) W w7 := E6.step he7 (by omega)
    have S7 := E7.size
    replace zr := zr.keep he7 (by omega)
    replace e_f0 := (he7.frozen e_0 (by simp only; omega)).trans e_f0
    replace e_f1 := (he7.frozen e_1 (by simp only; omega)).trans e_f1
    replace e_f2 := (he7.frozen e_2 (by simp only; omega)).trans e_f2
    replace e_f3 := (he7.frozen e_3 (by simp only; omega)).trans e_f3
    replace e_f4 := (he7.frozen e_4 (by simp only; omega)).trans e_f4
    replace e_f5 := (he7.frozen e_5 (by simp only; omega)).trans e_f5
    replace e_f6 := (he7.frozen e_6 (by simp only; omega)).trans e_f6
    replace e_0 := he7.cell e_0 (by simp only; omega)
    replace e_1 := he7.cell e_1 (by simp only; omega)
    replace e_2 := he7.cell e_2 (by simp only; omega)
    replace e_3 := he7.cell e_3 (by simp only; omega)
    replace e_4 := he7.cell e_4 (by simp only; omega)
    replace e_5 := he7.cell e_5 (by simp only; omega)
    replace e_6 := he7.cell e_6 (by simp only; omega)
    replace h_2 := he7.cell h_2 (by simp only; omega)
    replace h_3 := he7.cell h_3 (by simp only; omega)
    replace h_4 := he7.cell h_4 (by simp only; omega)
    replace h_5 := he7.cell h_5 (by simp only; omega)
    replace res_l := Nat.lt_of_lt_of_le res_l hz7
    replace e_l := Nat.lt_of_lt_of_le e_l hz7
    clear he
    go_upto_region 12 with fail
    clear h_2
    have he8 : Eff (w2.heap.size) (w2.heap.size + 1) w7 (w7.setCell ⟨w2.heap.size, 4, none⟩ (.int .i64 (1 + m * 25))) := eff_set _ _ _ _
    replace e_f0 := set_frozen (p := ⟨w2.heap.size, 4, none⟩) e_f0 (.int .i64 (1 + m * 25))
    replace e_f1 := set_frozen (p := ⟨w2.heap.size, 4, none⟩) e_f1 (.int .i64 (1 + m * 25))
    replace e_f2 := set_frozen (p := ⟨w2.heap.size, 4, none⟩) e_f2 (.int .i64 (1 + m * 25))
    replace e_f3 := set_frozen (p := ⟨w2.heap.size, 4, none⟩) e_f3 (.int .i64 (1 + m * 25))
    replace e_f4 := set_frozen (p := ⟨w2.heap.size, 4, none⟩) e_f4 (.int .i64 (1 + m * 25))
    replace e_f5 := set_frozen (p := ⟨w2.heap.size, 4, none⟩) e_f5 (.int .i64 (1 + m * 25))
    replace e_f6 := set_frozen (p := ⟨w2.heap.size, 4, none⟩) e_f6 (.int .i64 (1 + m * 25))
    replace e_0 := set_other (b' := w2.heap.size) (o' := 4) e_0 (.int .i64 (1 + m * 25)) (.inr (by omega))
    replace e_1 := set_other (b' := w2.heap.size) (o' := 4) e_1 (.int .i64 (1 + m * 25)) (.inr (by omega))
    replace e_2 := set_other (b' := w2.heap.size) (o' := 4) e_2 (.int .i64 (1 + m * 25)) (.inr (by omega))
    replace e_3 := set_other (b' := w2.heap.size) (o' := 4) e_3 (.int .i64 (1 + m * 25)) (.inr (by omega))
    replace e_4 := set_same e_4 (.int .i64 (1 + m * 25))
    replace e_5 := set_other (b' := w2.heap.size) (o' := 4) e_5 (.int .i64 (1 + m * 25)) (.inr (by omega))
    replace e_6 := set_other (b' := w2.heap.size) (o' := 4) e_6 (.int .i64 (1 + m * 25)) (.inr (by omega))
    replace h_3 := he8.cell h_3 (by simp only; omega)
    replace h_4 := he8.cell h_4 (by simp only; omega)
    replace h_5 := he8.cell h_5 (by simp only; omega)
    have hz8 : w7.heap.size ≤ (w7.setCell ⟨w2.heap.size, 4, none⟩ (.int .i64 (1 + m * 25))).heap.size := he8.size
    generalize (w7.setCell ⟨w2.heap.size, 4, none⟩ (.int .i64 (1 + m * 25))) = w8 at *
    have E8 : Eff g (g + 1) W w8 := E7.step he8 (by omega)
    have S8 := E8.size
    replace zr := zr.keep he8 (by omega)
    replace res_l := Nat.lt_of_lt_of_le res_l hz8
    replace e_l := Nat.lt_of_lt_of_le e_l hz8
    replace hc := hc.keep he8 (by omega) (by omega)
    go_wp2_with fail
    refine (l01Below_any B g (300) (by omega) w8 hc).mono ?_
    rintro e w9 hpost
    obtain ⟨n, rfl, ⟨n_0, n_1, -⟩, hc, he⟩ := hpost.eff
    clear hpost
    replace n_1 := n_1 (by omega)
    have he9 : Eff (g) (g + 1) w8 w9 := he
    have hz9 : w8.heap.size ≤ w9.heap.size := he9.size
    have E9 : Eff g (g + 1) W w9 := E8.step he9 (by omega)
    have S9 := E9.size
    replace zr := zr.keep he9 (by omega)
    replace e_f0 := (he9.frozen e_0 (by simp only; omega)).trans e_f0
    replace e_f1 := (he9.frozen e_1 (by simp only; omega)).trans e_f1
    replace e_f2 := (he9.frozen e_2 (by simp only; omega)).trans e_f2
    replace e_f3 := (he9.frozen e_3 (by simp only; omega)).trans e_f3
    replace e_f4 := (he9.frozen e_4 (by simp only; omega)).trans e_f4
    replace e_f5 := (he9.frozen e_5 (by simp only; omega)).trans e_f5
    replace e_f6 := (he9.frozen e_6 (by simp only; omega)).trans e_f6
    replace e_0 := he9.cell e_0 (by simp only; omega)
    replace e_1 := he9.cell e_1 (by simp only; omega)
    replace e_2 := he9.cell e_2 (by simp only; omega)
    replace e_3 := he9.cell e_3 (by simp only; omega)
    replace e_4 := he9.cell e_4 (by simp only; omega)
    replace e_5 := he9.cell e_5 (by simp only; omega)
    replace e_6 := he9.cell e_6 (by simp only; omega)
    replace h_3 := he9.cell h_3 (by simp only; omega)
    replace h_4 := he9.cell h_4 (by simp only; omega)
    replace h_5 := he9.cell h_5 (by simp only; omega)
    replace res_l := Nat.lt_of_lt_of_le res_l hz9
    replace e_l := Nat.lt_of_lt_of_le e_l hz9
    clear he
    go_upto_region 14 with fail
    clear h_4
    have he10 : Eff (w2.heap.size) (w2.heap.size + 1) w9 (w9.setCell ⟨w2.heap.size, 5, none⟩ (.int .i64 (n * 7))) := eff_set _ _ _ _
    replace e_f0 := set_frozen (p := ⟨w2.heap.size, 5, none⟩) e_f0 (.int .i64 (n * 7))
    replace e_f1 := set_frozen (p := ⟨w2.heap.size, 5, none⟩) e_f1 (.int .i64 (n * 7))
    replace e_f2 := set_frozen (p := ⟨w2.heap.size, 5, none⟩) e_f2 (.int .i64 (n * 7))
    replace e_f3 := set_frozen (p := ⟨w2.heap.size, 5, none⟩) e_f3 (.int .i64 (n * 7))
    replace e_f4 := set_frozen (p := ⟨w2.heap.size, 5, none⟩) e_f4 (.int .i64 (n * 7))
    replace e_f5 := set_frozen (p := ⟨w2.heap.size, 5, none⟩) e_f5 (.int .i64 (n * 7))
    replace e_f6 := set_frozen (p := ⟨w2.heap.size, 5, none⟩) e_f6 (.int .i64 (n * 7))
    replace e_0 := set_other (b' := w2.heap.size) (o' := 5) e_0 (.int .i64 (n * 7)) (.inr (by omega))
    replace e_1 := set_other (b' := w2.heap.size) (o' := 5) e_1 (.int .i64 (n * 7)) (.inr (by omega))
    replace e_2 := set_other (b' := w2.heap.size) (o' := 5) e_2 (.int .i64 (n * 7)) (.inr (by omega))
    replace e_3 := set_other (b' := w2.heap.size) (o' := 5) e_3 (.int .i64 (n * 7)) (.inr (by omega))
    replace e_4 := set_other (b' := w2.heap.size) (o' := 5) e_4 (.int .i64 (n * 7)) (.inr (by omega))
    replace e_5 := set_same e_5 (.int .i64 (n * 7))
    replace e_6 := set_other (b' := w2.heap.size) (o' := 5) e_6 (.int .i64 (n * 7)) (.inr (by omega))
    replace h_3 := he10.cell h_3 (by simp only; omega)
    replace h_5 := he10.cell h_5 (by simp only; omega)
    have hz10 : w9.heap.size ≤ (w9.setCell ⟨w2.heap.size, 5, none⟩ (.int .i64 (n * 7))).heap.size := he10.size
    generalize (w9.setCell ⟨w2.heap.size, 5, none⟩ (.int .i64 (n * 7))) = w10 at *
    have E10 : Eff g (g + 1) W w10 := E9.step he10 (by omega)
    have S10 := E10.size
    replace zr := zr.keep he10 (by omega)
    replace res_l := Nat.lt_of_lt_of_le res_l hz10
    replace e_l := Nat.lt_of_lt_of_le e_l hz10
    replace hc := hc.keep he10 (by omega) (by omega)
    go_upto_region 15 with fail
    clear h_5
    have he11 : Eff (w2.heap.size) (w2.heap.size + 1) w10 (w10.setCell ⟨w2.heap.size, 6, none⟩ (.bool false)) := eff_set _ _ _ _
    replace e_f0 := set_frozen (p := ⟨w2.heap.size, 6, none⟩) e_f0 (.bool false)
    replace e_f1 := set_frozen (p := ⟨w2.heap.size, 6, none⟩) e_f1 (.bool false)
    replace e_f2 := set_frozen (p := ⟨w2.heap.size, 6, none⟩) e_f2 (.bool false)
    replace e_f3 := set_frozen (p := ⟨w2.heap.size, 6, none⟩) e_f3 (.bool false)
    replace e_f4 := set_frozen (p := ⟨w2.heap.size, 6, none⟩) e_f4 (.bool false)
    replace e_f5 := set_frozen (p := ⟨w2.heap.size, 6, none⟩) e_f5 (.bool false)
    replace e_f6 := set_frozen (p := ⟨w2.heap.size, 6, none⟩) e_f6 (.bool false)
    replace e_0 := set_other (b' := w2.heap.size) (o' := 6) e_0 (.bool false) (.inr (by omega))
    replace e_1 := set_other (b' := w2.heap.size) (o' := 6) e_1 (.bool false) (.inr (by omega))
    replace e_2 := set_other (b' := w2.heap.size) (o' := 6) e_2 (.bool false) (.inr (by omega))
    replace e_3 := set_other (b' := w2.heap.size) (o' := 6) e_3 (.bool false) (.inr (by omega))
    replace e_4 := set_other (b' := w2.heap.size) (o' := 6) e_4 (.bool false) (.inr (by omega))
    replace e_5 := set_other (b' := w2.heap.size) (o' := 6) e_5 (.bool false) (.inr (by omega))
    replace e_6 := set_same e_6 (.bool false)
    replace h_3 := he11.cell h_3 (by simp only; omega)
    have hz11 : w10.heap.size ≤ (w10.setCell ⟨w2.heap.size, 6, none⟩ (.bool false)).heap.size := he11.size
    generalize (w10.setCell ⟨w2.heap.size, 6, none⟩ (.bool false)) = w11 at *
    have E11 : Eff g (g + 1) W w11 := E10.step he11 (by omega)
    have S11 := E11.size
    replace zr := zr.keep he11 (by omega)
    replace res_l := Nat.lt_of_lt_of_le res_l hz11
    replace e_l := Nat.lt_of_lt_of_le e_l hz11
    replace hc := hc.keep he11 (by omega) (by omega)
    go_wp2_with fail
    refine (l01Below_any B g (14) (by omega) w11 hc).mono ?_
    rintro e w12 hpost
    obtain ⟨q, rfl, ⟨q_0, q_1, -⟩, hc, he⟩ := hpost.eff
    clear hpost
    replace q_1 := q_1 (by omega)
    have he12 : Eff (g) (g + 1) w11 w12 := he
    have hz12 : w11.heap.size ≤ w12.heap.size := he12.size
    have E12 : Eff g (g + 1) W w12 := E11.step he12 (by omega)
    have S12 := E12.size
    replace zr := zr.keep he12 (by omega)
    replace e_f0 := (he12.frozen e_0 (by simp only; omega)).trans e_f0
    replace e_f1 := (he12.frozen e_1 (by simp only; omega)).trans e_f1
    replace e_f2 := (he12.frozen e_2 (by simp only; omega)).trans e_f2
    replace e_f3 := (he12.frozen e_3 (by simp only; omega)).trans e_f3
    replace e_f4 := (he12.frozen e_4 (by simp only; omega)).trans e_f4
    replace e_f5 := (he12.frozen e_5 (by simp only; omega)).trans e_f5
    replace e_f6 := (he12.frozen e_6 (by simp only; omega)).trans e_f6
    replace e_0 := he12.cell e_0 (by simp only; omega)
    replace e_1 := he12.cell e_1 (by simp only; omega)
    replace e_2 := he12.cell e_2 (by simp only; omega)
    replace e_3 := he12.cell e_3 (by simp only; omega)
    replace e_4 := he12.cell e_4 (by simp only; omega)
    replace e_5 := he12.cell e_5 (by simp only; omega)
    replace e_6 := he12.cell e_6 (by simp only; omega)
    replace h_3 := he12.cell h_3 (by simp only; omega)
    replace res_l := Nat.lt_of_lt_of_le res_l hz12
    replace e_l := Nat.lt_of_lt_of_le e_l hz12
    clear he
    by_cases hq : q = 0
    · skip
      subst hq
      go_wp2_with fail
      refine (l01Below_any B g (2) (by omega) w12 hc).mono ?_
      rintro e w13 hpost
      obtain ⟨r, rfl, ⟨r_0, r_1, -⟩, hc, he⟩ := hpost.eff
      clear hpost
      replace r_1 := r_1 (by omega)
      have he13 : Eff (g) (g + 1) w12 w13 := he
      have hz13 : w12.heap.size ≤ w13.heap.size := he13.size
      have E13 : Eff g (g + 1) W w13 := E12.step he13 (by omega)
      have S13 := E13.size
      replace zr := zr.keep he13 (by omega)
      replace e_f0 := (he13.frozen e_0 (by simp only; omega)).trans e_f0
      replace e_f1 := (he13.frozen e_1 (by simp only; omega)).trans e_f1
      replace e_f2 := (he13.frozen e_2 (by simp only; omega)).trans e_f2
      replace e_f3 := (he13.frozen e_3 (by simp only; omega)).trans e_f3
      replace e_f4 := (he13.frozen e_4 (by simp only; omega)).trans e_f4
      replace e_f5 := (he13.frozen e_5 (by simp only; omega)).trans e_f5
      replace e_f6 := (he13.frozen e_6 (by simp only; omega)).trans e_f6
      replace e_0 := he13.cell e_0 (by simp only; omega)
      replace e_1 := he13.cell e_1 (by simp only; omega)
      replace e_2 := he13.cell e_2 (by simp only; omega)
      replace e_3 := he13.cell e_3 (by simp only; omega)
      replace e_4 := he13.cell e_4 (by simp only; omega)
      replace e_5 := he13.cell e_5 (by simp only; omega)
      replace e_6 := he13.cell e_6 (by simp only; omega)
      replace h_3 := he13.cell h_3 (by simp only; omega)
      replace res_l := Nat.lt_of_lt_of_le res_l hz13
      replace e_l := Nat.lt_of_lt_of_le e_l hz13
      clear he
      go_upto_region 17 with fail
      have he14 : Eff (w2.heap.size) (w2.heap.size + 1) w13 (w13.setCell ⟨w2.heap.size, 4, none⟩ (.int .i64 (1125899906842624 - r))) := eff_set _ _ _ _
      replace e_f0 := set_frozen (p := ⟨w2.heap.size, 4, none⟩) e_f0 (.int .i64 (1125899906842624 - r))
      replace e_f1 := set_frozen (p := ⟨w2.heap.size, 4, none⟩) e_f1 (.int .i64 (1125899906842624 - r))
      replace e_f2 := set_frozen (p := ⟨w2.heap.size, 4, none⟩) e_f2 (.int .i64 (1125899906842624 - r))
      replace e_f3 := set_frozen (p := ⟨w2.heap.size, 4, none⟩) e_f3 (.int .i64 (1125899906842624 - r))
      replace e_f4 := set_frozen (p := ⟨w2.heap.size, 4, none⟩) e_f4 (.int .i64 (1125899906842624 - r))
      replace e_f5 := set_frozen (p := ⟨w2.heap.size, 4, none⟩) e_f5 (.int .i64 (1125899906842624 - r))
      replace e_f6 := set_frozen (p := ⟨w2.heap.size, 4, none⟩) e_f6 (.int .i64 (1125899906842624 - r))
      replace e_0 := set_other (b' := w2.heap.size) (o' := 4) e_0 (.int .i64 (1125899906842624 - r)) (.inr (by omega))
      replace e_1 := set_other (b' := w2.heap.size) (o' := 4) e_1 (.int .i64 (1125899906842624 - r)) (.inr (by omega))
      replace e_2 := set_other (b' := w2.heap.size) (o' := 4) e_2 (.int .i64 (1125899906842624 - r)) (.inr (by omega))
      replace e_3 := set_other (b' := w2.heap.size) (o' := 4) e_3 (.int .i64 (1125899906842624 - r)) (.inr (by omega))
      replace e_4 := set_same e_4 (.int .i64 (1125899906842624 - r))
      replace e_5 := set_other (b' := w2.heap.size) (o' := 4) e_5 (.int .i64 (1125899906842624 - r)) (.inr (by omega))
      replace e_6 := set_other (b' := w2.heap.size) (o' := 4) e_6 (.int .i64 (1125899906842624 - r)) (.inr (by omega))
      replace h_3 := he14.cell h_3 (by simp only; omega)
      have hz14 : w13.heap.size ≤ (w13.setCell ⟨w2.heap.size, 4, none⟩ (.int .i64 (1125899906842624 - r))).heap.size := he14.size
      generalize (w13.setCell ⟨w2.heap.size, 4, none⟩ (.int .i64 (1125899906842624 - r))) = w14 at *
      have E14 : Eff g (g + 1) W w14 := E13.step he14 (by omega)
      have S14 := E14.size
      replace zr := zr.keep he14 (by omega)
      replace res_l := Nat.lt_of_lt_of_le res_l hz14
      replace e_l := Nat.lt_of_lt_of_le e_l hz14
      replace hc := hc.keep he14 (by omega) (by omega)
      obtain ⟨res_0, res_1, res_2, res_3, res_4, res_5, res_6, res_f0, res_f1, res_f2, res_f3, res_f4, res_f5, res_f6⟩ := zr
      go_wp2_with fail
      have r0 : (((((((w14.setCell ⟨W.heap.size, 0, none⟩ (.int .i64 (1 + x))).setCell ⟨W.heap.size, 1, none⟩ (.int .i64 0)).setCell ⟨W.heap.size, 2, none⟩ (.int .i64 (1 + b))).setCell ⟨W.heap.size, 3, none⟩ (.int .i64 0)).setCell ⟨W.heap.size, 4, none⟩ (.int .i64 (1125899906842624 - r))).setCell ⟨W.heap.size, 5, none⟩ (.int .i64 (n * 7))).setCell ⟨W.heap.size, 6, none⟩ (.bool false)).cell? ⟨W.heap.size, 0, none⟩ = some (.int .i64 (1 + x)) := set_other (set_other (set_other (set_other (set_other (set_other (set_same (res_0) _) _ (.inr (by omega))) _ (.inr (by omega))) _ (.inr (by omega))) _ (.inr (by omega))) _ (.inr (by omega))) _ (.inr (by omega))
      have r1 : (((((((w14.setCell ⟨W.heap.size, 0, none⟩ (.int .i64 (1 + x))).setCell ⟨W.heap.size, 1, none⟩ (.int .i64 0)).setCell ⟨W.heap.size, 2, none⟩ (.int .i64 (1 + b))).setCell ⟨W.heap.size, 3, none⟩ (.int .i64 0)).setCell ⟨W.heap.size, 4, none⟩ (.int .i64 (1125899906842624 - r))).setCell ⟨W.heap.size, 5, none⟩ (.int .i64 (n * 7))).setCell ⟨W.heap.size, 6, none⟩ (.bool false)).cell? ⟨W.heap.size, 1, none⟩ = some (.int .i64 0) := set_other (set_other (set_other (set_other (set_other (set_same (set_other (res_1) _ (.inr (by omega))) _) _ (.inr (by omega))) _ (.inr (by omega))) _ (.inr (by omega))) _ (.inr (by omega))) _ (.inr (by omega))
      have r2 : (((((((w14.setCell ⟨W.heap.size, 0, none⟩ (.int .i64 (1 + x))).setCell ⟨W.heap.size, 1, none⟩ (.int .i64 0)).setCell ⟨W.heap.size, 2, none⟩ (.int .i64 (1 + b))).setCell ⟨W.heap.size, 3, none⟩ (.int .i64 0)).setCell ⟨W.heap.size, 4, none⟩ (.int .i64 (1125899906842624 - r))).setCell ⟨W.heap.size, 5, none⟩ (.int .i64 (n * 7))).setCell ⟨W.heap.size, 6, none⟩ (.bool false)).cell? ⟨W.heap.size, 2, none⟩ = some (.int .i64 (1 + b)) := set_other (set_other (set_other (set_other (set_same (set_other (set_other (res_2) _ (.inr (by omega))) _ (.inr (by omega))) _) _ (.inr (by omega))) _ (.inr (by omega))) _ (.inr (by omega))) _ (.inr (by omega))
      have r3 : (((((((w14.setCell ⟨W.heap.size, 0, none⟩ (.int .i64 (1 + x))).setCell ⟨W.heap.size, 1, none⟩ (.int .i64 0)).setCell ⟨W.heap.size, 2, none⟩ (.int .i64 (1 + b))).setCell ⟨W.heap.size, 3, none⟩ (.int .i64 0)).setCell ⟨W.heap.size, 4, none⟩ (.int .i64 (1125899906842624 - r))).setCell ⟨W.heap.size, 5, none⟩ (.int .i64 (n * 7))).setCell ⟨W.heap.size, 6, none⟩ (.bool false)).cell? ⟨W.heap.size, 3, none⟩ = some (.int .i64 0) := set_other (set_other (set_other (set_same (set_other (set_other (set_other (res_3) _ (.inr (by omega))) _ (.inr (by omega))) _ (.inr (by omega))) _) _ (.inr (by omega))) _ (.inr (by omega))) _ (.inr (by omega))
      have r4 : (((((((w14.setCell ⟨W.heap.size, 0, none⟩ (.int .i64 (1 + x))).setCell ⟨W.heap.size, 1, none⟩ (.int .i64 0)).setCell ⟨W.heap.size, 2, none⟩ (.int .i64 (1 + b))).setCell ⟨W.heap.size, 3, none⟩ (.int .i64 0)).setCell ⟨W.heap.size, 4, none⟩ (.int .i64 (1125899906842624 - r))).setCell ⟨W.heap.size, 5, none⟩ (.int .i64 (n * 7))).setCell ⟨W.heap.size, 6, none⟩ (.bool false)).cell? ⟨W.heap.size, 4, none⟩ = some (.int .i64 (1125899906842624 - r)) := set_other (set_other (set_same (set_other (set_other (set_other (set_other (res_4) _ (.inr (by omega))) _ (.inr (by omega))) _ (.inr (by omega))) _ (.inr (by omega))) _) _ (.inr (by omega))) _ (.inr (by omega))
      have r5 : (((((((w14.setCell ⟨W.heap.size, 0, none⟩ (.int .i64 (1 + x))).setCell ⟨W.heap.size, 1, none⟩ (.int .i64 0)).setCell ⟨W.heap.size, 2, none⟩ (.int .i64 (1 + b))).setCell ⟨W.heap.size, 3, none⟩ (.int .i64 0)).setCell ⟨W.heap.size, 4, none⟩ (.int .i64 (1125899906842624 - r))).setCell ⟨W.heap.size, 5, none⟩ (.int .i64 (n * 7))).setCell ⟨W.heap.size, 6, none⟩ (.bool false)).cell? ⟨W.heap.size, 5, none⟩ = some (.int .i64 (n * 7)) := set_other (set_same (set_other (set_other (set_other (set_other (set_other (res_5) _ (.inr (by omega))) _ (.inr (by omega))) _ (.inr (by omega))) _ (.inr (by omega))) _ (.inr (by omega))) _) _ (.inr (by omega))
      have r6 : (((((((w14.setCell ⟨W.heap.size, 0, none⟩ (.int .i64 (1 + x))).setCell ⟨W.heap.size, 1, none⟩ (.int .i64 0)).setCell ⟨W.heap.size, 2, none⟩ (.int .i64 (1 + b))).setCell ⟨W.heap.size, 3, none⟩ (.int .i64 0)).setCell ⟨W.heap.size, 4, none⟩ (.int .i64 (1125899906842624 - r))).setCell ⟨W.heap.size, 5, none⟩ (.int .i64 (n * 7))).setCell ⟨W.heap.size, 6, none⟩ (.bool false)).cell? ⟨W.heap.size, 6, none⟩ = some (.bool false) := set_same (set_other (set_other (set_other (set_other (set_other (set_other (res_6) _ (.inr (by omega))) _ (.inr (by omega))) _ (.inr (by omega))) _ (.inr (by omega))) _ (.inr (by omega))) _ (.inr (by omega))) _
      refine bodyPost_ret (v := .agg #[.int .i64 (1 + x), .int .i64 0, .int .i64 (1 + b), .int .i64 0, .int .i64 (1125899906842624 - r), .int .i64 (n * 7), .bool false]) (by simp [results, Tryd.results63, go_sem, r0, r1, r2, r3, r4, r5, r6]) rfl ?_
      exact EvPost.mk E14 hc (eff_set7 _ _ _ _ _ _ _ _ _) (by omega) (by omega)
    · skip
      have hq0 : (q == 0) = false := by simp; omega
      obtain ⟨res_0, res_1, res_2, res_3, res_4, res_5, res_6, res_f0, res_f1, res_f2, res_f3, res_f4, res_f5, res_f6⟩ := zr
      go_wp2_with fail
      have r0 : (((((((w12.setCell ⟨W.heap.size, 0, none⟩ (.int .i64 (1 + x))).setCell ⟨W.heap.size, 1, none⟩ (.int .i64 0)).setCell ⟨W.heap.size, 2, none⟩ (.int .i64 (1 + b))).setCell ⟨W.heap.size, 3, none⟩ (.int .i64 0)).setCell ⟨W.heap.size, 4, none⟩ (.int .i64 (1 + m * 25))).setCell ⟨W.heap.size, 5, none⟩ (.int .i64 (n * 7))).setCell ⟨W.heap.size, 6, none⟩ (.bool false)).cell? ⟨W.heap.size, 0, none⟩ = some (.int .i64 (1 + x)) := set_other (set_other (set_other (set_other (set_other (set_other (set_same (res_0) _) _ (.inr (by omega))) _ (.inr (by omega))) _ (.inr (by omega))) _ (.inr (by omega))) _ (.inr (by omega))) _ (.inr (by omega))
      have r1 : (((((((w12.setCell ⟨W.heap.size, 0, none⟩ (.int .i64 (1 + x))).setCell ⟨W.heap.size, 1, none⟩ (.int .i64 0)).setCell ⟨W.heap.size, 2, none⟩ (.int .i64 (1 + b))).setCell ⟨W.heap.size, 3, none⟩ (.int .i64 0)).setCell ⟨W.heap.size, 4, none⟩ (.int .i64 (1 + m * 25))).setCell ⟨W.heap.size, 5, none⟩ (.int .i64 (n * 7))).setCell ⟨W.heap.size, 6, none⟩ (.bool false)).cell? ⟨W.heap.size, 1, none⟩ = some (.int .i64 0) := set_other (set_other (set_other (set_other (set_other (set_same (set_other (res_1) _ (.inr (by omega))) _) _ (.inr (by omega))) _ (.inr (by omega))) _ (.inr (by omega))) _ (.inr (by omega))) _ (.inr (by omega))
      have r2 : (((((((w12.setCell ⟨W.heap.size, 0, none⟩ (.int .i64 (1 + x))).setCell ⟨W.heap.size, 1, none⟩ (.int .i64 0)).setCell ⟨W.heap.size, 2, none⟩ (.int .i64 (1 + b))).setCell ⟨W.heap.size, 3, none⟩ (.int .i64 0)).setCell ⟨W.heap.size, 4, none⟩ (.int .i64 (1 + m * 25))).setCell ⟨W.heap.size, 5, none⟩ (.int .i64 (n * 7))).setCell ⟨W.heap.size, 6, none⟩ (.bool false)).cell? ⟨W.heap.size, 2, none⟩ = some (.int .i64 (1 + b)) := set_other (set_other (set_other (set_other (set_same (set_other (set_other (res_2) _ (.inr (by omega))) _ (.inr (by omega))) _) _ (.inr (by omega))) _ (.inr (by omega))) _ (.inr (by omega))) _ (.inr (by omega))
      have r3 : (((((((w12.setCell ⟨W.heap.size, 0, none⟩ (.int .i64 (1 + x))).setCell ⟨W.heap.size, 1, none⟩ (.int .i64 0)).setCell ⟨W.heap.size, 2, none⟩ (.int .i64 (1 + b))).setCell ⟨W.heap.size, 3, none⟩ (.int .i64 0)).setCell ⟨W.heap.size, 4, none⟩ (.int .i64 (1 + m * 25))).setCell ⟨W.heap.size, 5, none⟩ (.int .i64 (n * 7))).setCell ⟨W.heap.size, 6, none⟩ (.bool false)).cell? ⟨W.heap.size, 3, none⟩ = some (.int .i64 0) := set_other (set_other (set_other (set_same (set_other (set_other (set_other (res_3) _ (.inr (by omega))) _ (.inr (by omega))) _ (.inr (by omega))) _) _ (.inr (by omega))) _ (.inr (by omega))) _ (.inr (by omega))
      have r4 : (((((((w12.setCell ⟨W.heap.size, 0, none⟩ (.int .i64 (1 + x))).setCell ⟨W.heap.size, 1, none⟩ (.int .i64 0)).setCell ⟨W.heap.size, 2, none⟩ (.int .i64 (1 + b))).setCell ⟨W.heap.size, 3, none⟩ (.int .i64 0)).setCell ⟨W.heap.size, 4, none⟩ (.int .i64 (1 + m * 25))).setCell ⟨W.heap.size, 5, none⟩ (.int .i64 (n * 7))).setCell ⟨W.heap.size, 6, none⟩ (.bool false)).cell? ⟨W.heap.size, 4, none⟩ = some (.int .i64 (1 + m * 25)) := set_other (set_other (set_same (set_other (set_other (set_other (set_other (res_4) _ (.inr (by omega))) _ (.inr (by omega))) _ (.inr (by omega))) _ (.inr (by omega))) _) _ (.inr (by omega))) _ (.inr (by omega))
      have r5 : (((((((w12.setCell ⟨W.heap.size, 0, none⟩ (.int .i64 (1 + x))).setCell ⟨W.heap.size, 1, none⟩ (.int .i64 0)).setCell ⟨W.heap.size, 2, none⟩ (.int .i64 (1 + b))).setCell ⟨W.heap.size, 3, none⟩ (.int .i64 0)).setCell ⟨W.heap.size, 4, none⟩ (.int .i64 (1 + m * 25))).setCell ⟨W.heap.size, 5, none⟩ (.int .i64 (n * 7))).setCell ⟨W.heap.size, 6, none⟩ (.bool false)).cell? ⟨W.heap.size, 5, none⟩ = some (.int .i64 (n * 7)) := set_other (set_same (set_other (set_other (set_other (set_other (set_other (res_5) _ (.inr (by omega))) _ (.inr (by omega))) _ (.inr (by omega))) _ (.inr (by omega))) _ (.inr (by omega))) _) _ (.inr (by omega))
      have r6 : (((((((w12.setCell ⟨W.heap.size, 0, none⟩ (.int .i64 (1 + x))).setCell ⟨W.heap.size, 1, none⟩ (.int .i64 0)).setCell ⟨W.heap.size, 2, none⟩ (.int .i64 (1 + b))).setCell ⟨W.heap.size, 3, none⟩ (.int .i64 0)).setCell ⟨W.heap.size, 4, none⟩ (.int .i64 (1 + m * 25))).setCell ⟨W.heap.size, 5, none⟩ (.int .i64 (n * 7))).setCell ⟨W.heap.size, 6, none⟩ (.bool false)).cell? ⟨W.heap.size, 6, none⟩ = some (.bool false) := set_same (set_other (set_other (set_other (set_other (set_other (set_other (res_6) _ (.inr (by omega))) _ (.inr (by omega))) _ (.inr (by omega))) _ (.inr (by omega))) _ (.inr (by omega))) _ (.inr (by omega))) _
      refine bodyPost_ret (v := .agg #[.int .i64 (1 + x), .int .i64 0, .int .i64 (1 + b), .int .i64 0, .int .i64 (1 + m * 25), .int .i64 (n * 7), .bool false]) (by simp [results, Tryd.results63, go_sem, r0, r1, r2, r3, r4, r5, r6]) rfl ?_
      exact EvPost.mk E12 hc (eff_set7 _ _ _ _ _ _ _ _ _) (by omega) (by omega)
  · skip
    have HP := Lib.hid hp
    clear hp
    go_wp2_with fail
    have he3 : Eff 0 0 w2 (w2.alloc (.cells #[.int .i64 (1 + x), .int .i64 0, .int .i64 0, .int .i64 0, .int .i64 0, .int .i64 0, .bool false] 32)) := Eff.alloc _ _
    have hs3 : (w2.alloc (.cells #[.int .i64 (1 + x), .int .i64 0, .int .i64 0, .int .i64 0, .int .i64 0, .int .i64 0, .bool false] 32)).heap.size = w2.heap.size + 1 := (by simp)
    have e_0 : (w2.alloc (.cells #[.int .i64 (1 + x), .int .i64 0, .int .i64 0, .int .i64 0, .int .i64 0, .int .i64 0, .bool false] 32)).cell? ⟨w2.heap.size, 0, none⟩ = some (.int .i64 (1 + x)) := var_cell _ _ _ _ _ rfl
    have e_1 : (w2.alloc (.cells #[.int .i64 (1 + x), .int .i64 0, .int .i64 0, .int .i64 0, .int .i64 0, .int .i64 0, .bool false] 32)).cell? ⟨w2.heap.size, 1, none⟩ = some (.int .i64 0) := var_cell _ _ _ _ _ rfl
    have e_2 : (w2.alloc (.cells #[.int .i64 (1 + x), .int .i64 0, .int .i64 0, .int .i64 0, .int .i64 0, .int .i64 0, .bool false] 32)).cell? ⟨w2.heap.size, 2, none⟩ = some (.int .i64 0) := var_cell _ _ _ _ _ rfl
    have e_3 : (w2.alloc (.cells #[.int .i64 (1 + x), .int .i64 0, .int .i64 0, .int .i64 0, .int .i64 0, .int .i64 0, .bool false] 32)).cell? ⟨w2.heap.size, 3, none⟩ = some (.int .i64 0) := var_cell _ _ _ _ _ rfl
    have e_4 : (w2.alloc (.cells #[.int .i64 (1 + x), .int .i64 0, .int .i64 0, .int .i64 0, .int .i64 0, .int .i64 0, .bool false] 32)).cell? ⟨w2.heap.size, 4, none⟩ = some (.int .i64 0) := var_cell _ _ _ _ _ rfl
    have e_5 : (w2.alloc (.cells #[.int .i64 (1 + x), .int .i64 0, .int .i64 0, .int .i64 0, .int .i64 0, .int .i64 0, .bool false] 32)).cell? ⟨w2.heap.size, 5, none⟩ = some (.int .i64 0) := var_cell _ _ _ _ _ rfl
    have e_6 : (w2.alloc (.cells #[.int .i64 (1 + x), .int .i64 0, .int .i64 0, .int .i64 0, .int .i64 0, .int .i64 0, .bool false] 32)).cell? ⟨w2.heap.size, 6, none⟩ = some (.bool false) := var_cell _ _ _ _ _ rfl
    have e_f0 : (w2.alloc (.cells #[.int .i64 (1 + x), .int .i64 0, .int .i64 0, .int .i64 0, .int .i64 0, .int .i64 0, .bool false] 32)).frozen? ⟨w2.heap.size, 0, none⟩ = false := var_frozen _ _ _ _
    have e_f1 : (w2.alloc (.cells #[.int .i64 (1 + x), .int .i64 0, .int .i64 0, .int .i64 0, .int .i64 0, .int .i64 0, .bool false] 32)).frozen? ⟨w2.heap.size, 1, none⟩ = false := var_frozen _ _ _ _
    have e_f2 : (w2.alloc (.cells #[.int .i64 (1 + x), .int .i64 0, .int .i64 0, .int .i64 0, .int .i64 0, .int .i64 0, .bool false] 32)).frozen? ⟨w2.heap.size, 2, none⟩ = false := var_frozen _ _ _ _
    have e_f3 : (w2.alloc (.cells #[.int .i64 (1 + x), .int .i64 0, .int .i64 0, .int .i64 0, .int .i64 0, .int .i64 0, .bool false] 32)).frozen? ⟨w2.heap.size, 3, none⟩ = false := var_frozen _ _ _ _
    have e_f4 : (w2.alloc (.cells #[.int .i64 (1 + x), .int .i64 0, .int .i64 0, .int .i64 0, .int .i64 0, .int .i64 0, .bool false] 32)).frozen? ⟨w2.heap.size, 4, none⟩ = false := var_frozen _ _ _ _
    have e_f5 : (w2.alloc (.cells #[.int .i64 (1 + x), .int .i64 0, .int .i64 0, .int .i64 0, .int .i64 0, .int .i64 0, .bool false] 32)).frozen? ⟨w2.heap.size, 5, none⟩ = false := var_frozen _ _ _ _
    have e_f6 : (w2.alloc (.cells #[.int .i64 (1 + x), .int .i64 0, .int .i64 0, .int .i64 0, .int .i64 0, .int .i64 0, .bool false] 32)).frozen? ⟨w2.heap.size, 6, none⟩ = false := var_frozen _ _ _ _
    generalize (w2.alloc (.cells #[.int .i64 (1 + x), .int .i64 0, .int .i64 0, .int .i64 0, .int .i64 0, .int .i64 0, .bool false] 32)) = w3 at *
    have hz3 : w2.heap.size ≤ w3.heap.size := he3.size
    have E3 : Eff g (g + 1) W w3 := E2.step he3 (by omega)
    have S3 := E3.size
    replace zr := zr.keep he3 (by omega)
    replace res_l := Nat.lt_of_lt_of_le res_l hz3
    replace hc := hc.keep he3 (by omega) (by omega)
    have e_l : w2.heap.size < w3.heap.size := (by omega)
    have hVH : w2.heap.size < w3.heap.size := by omega
    clear hs3
    refine (l04HasC (1 + x) q0 q1 w3.heap.size w3 rfl).mono ?_
    rintro e w4 ⟨rfl, h_0, h_1, h_2, h_3, h_4, h_5, he⟩
    rw [HP.out] at h_0 h_1 h_2 h_3 h_4 h_5
    have he4 : Eff (0) (0) w3 w4 := he
    have hz4 : w3.heap.size ≤ w4.heap.size := he4.size
    have E4 : Eff g (g + 1) W w4 := E3.step he4 (by omega)
    have S4 := E4.size
    replace zr := zr.keep he4 (by omega)
    replace e_f0 := (he4.frozen e_0 (by simp only; omega)).trans e_f0
    replace e_f1 := (he4.frozen e_1 (by simp only; omega)).trans e_f1
    replace e_f2 := (he4.frozen e_2 (by simp only; omega)).trans e_f2
    replace e_f3 := (he4.frozen e_3 (by simp only; omega)).trans e_f3
    replace e_f4 := (he4.frozen e_4 (by simp only; omega)).trans e_f4
    replace e_f5 := (he4.frozen e_5 (by simp only; omega)).trans e_f5
    replace e_f6 := (he4.frozen e_6 (by simp only; omega)).trans e_f6
    replace e_0 := he4.cell e_0 (by simp only; omega)
    replace e_1 := he4.cell e_1 (by simp only; omega)
    replace e_2 := he4.cell e_2 (by simp only; omega)
    replace e_3 := he4.cell e_3 (by simp only; omega)
    replace e_4 := he4.cell e_4 (by simp only; omega)
    replace e_5 := he4.cell e_5 (by simp only; omega)
    replace e_6 := he4.cell e_6 (by simp only; omega)
    replace res_l := Nat.lt_of_lt_of_le res_l hz4
    replace e_l := Nat.lt_of_lt_of_le e_l hz4
    replace hc := hc.keep he4 (by omega) (by omega)
    clear he
    have h_l : w3.heap.size < w4.heap.size := World.block_lt_of_cell? _ _ h_0
    go_wp2_with fail
    refine (l01Below_any B g (4) (by omega) w4 hc).mono ?_
    rintro e w5 hpost
    obtain ⟨b, rfl, ⟨b_0, b_1, -⟩, hc, he⟩ := hpost.eff
    clear hpost
    replace b_1 := b_1 (by omega)
    have he5 : Eff (g) (g + 1) w4 w5 := he
    have hz5 : w4.heap.size ≤ w5.heap.size := he5.size
    have E5 : Eff g (g + 1) W w5 := E4.step he5 (by omega)
    have S5 := E5.size
    replace zr := zr.keep he5 (by omega)
    replace e_f0 := (he5.frozen e_0 (by simp only; omega)).trans e_f0
    replace e_f1 := (he5.frozen e_1 (by simp only; omega)).trans e_f1
    replace e_f2 := (he5.frozen e_2 (by simp only; omega)).trans e_f2
    replace e_f3 := (he5.frozen e_3 (by simp only; omega)).trans e_f3
    replace e_f4 := (he5.frozen e_4 (by simp only; omega)).trans e_f4
    replace e_f5 := (he5.frozen e_5 (by simp only; omega)).trans e_f5
    replace e_f6 := (he5.frozen e_6 (by simp only; omega)).trans e_f6
    replace e_0 := he5.cell e_0 (by simp only; omega)
    replace e_1 := he5.cell e_1 (by simp only; omega)
    replace e_2 := he5.cell e_2 (by simp only; omega)
    replace e_3 := he5.cell e_3 (by simp only; omega)
    replace e_4 := he5.cell e_4 (by simp only; omega)
    replace e_5 := he5.cell e_5 (by simp only; omega)
    replace e_6 := he5.cell e_6 (by simp only; omega)
    replace h_0 := he5.cell h_0 (by simp only; omega)
    replace h_1 := he5.cell h_1 (by simp only; omega)
    replace h_2 := he5.cell h_2 (by simp only; omega)
    replace h_3 := he5.cell h_3 (by simp only; omega)
    replace h_4 := he5.cell h_4 (by simp only; omega)
    replace h_5 := he5.cell h_5 (by simp only; omega)
    replace res_l := Nat.lt_of_lt_of_le res_l hz5
    replace e_l := Nat.lt_of_lt_of_le e_l hz5
    clear he
    go_upto_region 8 with fail
    clear h_0
    clear h_1
    have he6 : Eff (w2.heap.size) (w2.heap.size + 1) w5 (w5.setCell ⟨w2.heap.size, 2, none⟩ (.int .i64 (1 + b))) := eff_set _ _ _ _
    replace e_f0 := set_frozen (p := ⟨w2.heap.size, 2, none⟩) e_f0 (.int .i64 (1 + b))
    replace e_f1 := set_frozen (p := ⟨w2.heap.size, 2, none⟩) e_f1 (.int .i64 (1 + b))
    replace e_f2 := set_frozen (p := ⟨w2.heap.size, 2, none⟩) e_f2 (.int .i64 (1 + b))
    replace e_f3 := set_frozen (p := ⟨w2.heap.size, 2, none⟩) e_f3 (.int .i64 (1 + b))
    replace e_f4 := set_frozen (p := ⟨w2.heap.size, 2, none⟩) e_f4 (.int .i64 (1 + b))
    replace e_f5 := set_frozen (p := ⟨w2.heap.size, 2, none⟩) e_f5 (.int .i64 (1 + b))
    replace e_f6 := set_frozen (p := ⟨w2.heap.size, 2, none⟩) e_f6 (.int .i64 (1 + b))
    replace e_0 := set_other (b' := w2.heap.size) (o' := 2) e_0 (.int .i64 (1 + b)) (.inr (by omega))
    replace e_1 := set_other (b' := w2.heap.size) (o' := 2) e_1 (.int .i64 (1 + b)) (.inr (by omega))
    replace e_2 := set_same e_2 (.int .i64 (1 + b))
    replace e_3 := set_other (b' := w2.heap.size) (o' := 2) e_3 (.int .i64 (1 + b)) (.inr (by omega))
    replace e_4 := set_other (b' := w2.heap.size) (o' := 2) e_4 (.int .i64 (1 + b)) (.inr (by omega))
    replace e_5 := set_other (b' := w2.heap.size) (o' := 2) e_5 (.int .i64 (1 + b)) (.inr (by omega))
    replace e_6 := set_other (b' := w2.heap.size) (o' := 2) e_6 (.int .i64 (1 + b)) (.inr (by omega))
    replace h_2 := he6.cell h_2 (by simp only; omega)
    replace h_3 := he6.cell h_3 (by simp only; omega)
    replace h_4 := he6.cell h_4 (by simp only; omega)
    replace h_5 := he6.cell h_5 (by simp only; omega)
    have hz6 : w5.heap.size ≤ (w5.setCell ⟨w2.heap.size, 2, none⟩ (.int .i64 (1 + b))).heap.size := he6.size
    generalize (w5.setCell ⟨w2.heap.size, 2, none⟩ (.int .i64 (1 + b))) = w6 at *
    have E6 : Eff g (g + 1) W w6 := E5.step he6 (by omega)
    have S6 := E6.size
    replace zr := zr.keep he6 (by omega)
    replace res_l := Nat.lt_of_lt_of_le res_l hz6
    replace e_l := Nat.lt_of_lt_of_le e_l hz6
    replace hc := hc.keep he6 (by omega) (by omega)
    go_wp2_with fail
    refine (l01Below_any B g (300) (by omega) w6 hc).mono ?_
    rintro e w7 hpost
    obtain ⟨n, rfl, ⟨n_0, n_1, -⟩, hc, he⟩ := hpost.eff
    clear hpost
    replace n_1 := n_1 (by omega)
    have he7 : Eff (g) (g + 1) w6 w7 := he
    have hz7 : w6.heap.size ≤ w7.heap.size := he7.size
    have E7 : Eff g (g + 1) W w7 := E6.step he7 (by omega)
    have S7 := E7.size
    replace zr := zr.keep he7 (by omega)
    replace e_f0 := (he7.frozen e_0 (by simp only; omega)).trans e_f0
    replace e_f1 := (he7.frozen e_1 (by simp only; omega)).trans e_f1
    replace e_f2 := (he7.frozen e_2 (by simp only; omega)).trans e_f2
    replace e_f3 := (he7.frozen e_3 (by simp only; omega)).trans e_f3
    replace e_f4 := (he7.frozen e_4 (by simp only; omega)).trans e_f4
    replace e_f5 := (he7.frozen e_5 (by simp only; omega)).trans e_f5
    replace e_f6 := (he7.frozen e_6 (by simp only; omega)).trans e_f6
    replace e_0 := he7.cell e_0 (by simp only; omega)
    replace e_1 := he7.cell e_1 (by simp only; omega)
    replace e_2 := he7.cell e_2 (by simp only; omega)
    replace e_3 := he7.cell e_3 (by simp only; omega)
    replace e_4 := he7.cell e_4 (by simp only; omega)
    replace e_5 := he7.cell e_5 (by simp only; omega)
    replace e_6 := he7.cell e_6 (by simp only; omega)
    replace h_2 := he7.cell h_2 (by simp only; omega)
    replace h_3 := he7.cell h_3 (by simp only; omega)
    replace h_4 := he7.cell h_4 (by simp only; omega)
    replace h_5 := he7.cell h_5 (by simp only; omega)
    replace res_l := Nat.lt_of_lt_of_le res_l hz7
    replace e_l := Nat.lt_of_lt_of_le e_l hz7
    clear he
    go_upto_region 14 with fail
    clear h_2
    clear h_4
    have he8 : Eff (w2.heap.size) (w2.heap.size + 1) w7 (w7.setCell ⟨w2.heap.size, 5, none⟩ (.int .i64 (n * 7))) := eff_set _ _ _ _
    replace e_f0 := set_frozen (p := ⟨w2.heap.size, 5, none⟩) e_f0 (.int .i64 (n * 7))
    replace e_f1 := set_frozen (p := ⟨w2.heap.size, 5, none⟩) e_f1 (.int .i64 (n * 7))
    replace e_f2 := set_frozen (p := ⟨w2.heap.size, 5, none⟩) e_f2 (.int .i64 (n * 7))
    replace e_f3 := set_frozen (p := ⟨w2.heap.size, 5, none⟩) e_f3 (.int .i64 (n * 7))
    replace e_f4 := set_frozen (p := ⟨w2.heap.size, 5, none⟩) e_f4 (.int .i64 (n * 7))
    replace e_f5 := set_frozen (p := ⟨w2.heap.size, 5, none⟩) e_f5 (.int .i64 (n * 7))
    replace e_f6 := set_frozen (p := ⟨w2.heap.size, 5, none⟩) e_f6 (.int .i64 (n * 7))
    replace e_0 := set_other (b' := w2.heap.size) (o' := 5) e_0 (.int .i64 (n * 7)) (.inr (by omega))
    replace e_1 := set_other (b' := w2.heap.size) (o' := 5) e_1 (.int .i64 (n * 7)) (.inr (by omega))
    replace e_2 := set_other (b' := w2.heap.size) (o' := 5) e_2 (.int .i64 (n * 7)) (.inr (by omega))
    replace e_3 := set_other (b' := w2.heap.size) (o' := 5) e_3 (.int .i64 (n * 7)) (.inr (by omega))
    replace e_4 := set_other (b' := w2.heap.size) (o' := 5) e_4 (.int .i64 (n * 7)) (.inr (by omega))
    replace e_5 := set_same e_5 (.int .i64 (n * 7))
    replace e_6 := set_other (b' := w2.heap.size) (o' := 5) e_6 (.int .i64 (n * 7)) (.inr (by omega))
    replace h_3 := he8.cell h_3 (by simp only; omega)
    replace h_5 := he8.cell h_5 (by simp only; omega)
    have hz8 : w7.heap.size ≤ (w7.setCell ⟨w2.heap.size, 5, none⟩ (.int .i64 (n * 7))).heap.size := he8.size
    generalize (w7.setCell ⟨w2.heap.size, 5, none⟩ (.int .i64 (n * 7))) = w8 at *
    have E8 : Eff g (g + 1) W w8 := E7.step he8 (by omega)
    have S8 := E8.size
    replace zr := zr.keep he8 (by omega)
    replace res_l := Nat.lt_of_lt_of_le res_l hz8
    replace e_l := Nat.lt_of_lt_of_le e_l hz8
    replace hc := hc.keep he8 (by omega) (by omega)
    go_upto_region 15 with fail
    clear h_5
    have he9 : Eff (w2.heap.size) (w2.heap.size + 1) w8 (w8.setCell ⟨w2.heap.size, 6, none⟩ (.bool false)) := eff_set _ _ _ _
    replace e_f0 := set_frozen (p := ⟨w2.heap.size, 6, none⟩) e_f0 (.bool false)
    replace e_f1 := set_frozen (p := ⟨w2.heap.size, 6, none⟩) e_f1 (.bool false)
    replace e_f2 := set_frozen (p := ⟨w2.heap.size, 6, none⟩) e_f2 (.bool false)
    replace e_f3 := set_frozen (p := ⟨w2.heap.size, 6, none⟩) e_f3 (.bool false)
    replace e_f4 := set_frozen (p := ⟨w2.heap.size, 6, none⟩) e_f4 (.bool false)
    replace e_f5 := set_frozen (p := ⟨w2.heap.size, 6, none⟩) e_f5 (.bool false)
    replace e_f6 := set_frozen (p := ⟨w2.heap.size, 6, none⟩) e_f6 (.bool false)
    replace e_0 := set_other (b' := w2.heap.size) (o' := 6) e_0 (.bool false) (.inr (by omega))
    replace e_1 := set_other (b' := w2.heap.size) (o' := 6) e_1 (.bool false) (.inr (by omega))
    replace e_2 := set_other (b' := w2.heap.size) (o' := 6) e_2 (.bool false) (.inr (by omega))
    replace e_3 := set_other (b' := w2.heap.size) (o' := 6) e_3 (.bool false) (.inr (by omega))
    replace e_4 := set_other (b' := w2.heap.size) (o' := 6) e_4 (.bool false) (.inr (by omega))
    replace e_5 := set_other (b' := w2.heap.size) (o' := 6) e_5 (.bool false) (.inr (by omega))
    replace e_6 := set_same e_6 (.bool false)
    replace h_3 := he9.cell h_3 (by simp only; omega)
    have hz9 : w8.heap.size ≤ (w8.setCell ⟨w2.heap.size, 6, none⟩ (.bool false)).heap.size := he9.size
    generalize (w8.setCell ⟨w2.heap.size, 6, none⟩ (.bool false)) = w9 at *
    have E9 : Eff g (g + 1) W w9 := E8.step he9 (by omega)
    have S9 := E9.size
    replace zr := zr.keep he9 (by omega)
    replace res_l := Nat.lt_of_lt_of_le res_l hz9
    replace e_l := Nat.lt_of_lt_of_le e_l hz9
    replace hc := hc.keep he9 (by omega) (by omega)
    go_wp2_with fail
    refine (l01Below_any B g (14) (by omega) w9 hc).mono ?_
    rintro e w10 hpost
    obtain ⟨q, rfl, ⟨q_0, q_1, -⟩, hc, he⟩ := hpost.eff
    clear hpost
    replace q_1 := q_1 (by omega)
    have he10 : Eff (g) (g + 1) w9 w10 := he
    have hz10 : w9.heap.size ≤ w10.heap.size := he10.size
    have E10 : Eff g (g + 1) W w10 := E9.step he10 (by omega)
    have S10 := E10.size
    replace zr := zr.keep he10 (by omega)
    replace e_f0 := (he10.frozen e_0 (by simp only; omega)).trans e_f0
    replace e_f1 := (he10.frozen e_1 (by simp only; omega)).trans e_f1
    replace e_f2 := (he10.frozen e_2 (by simp only; omega)).trans e_f2
    replace e_f3 := (he10.frozen e_3 (by simp only; omega)).trans e_f3
    replace e_f4 := (he10.frozen e_4 (by simp only; omega)).trans e_f4
    replace e_f5 := (he10.frozen e_5 (by simp only; omega)).trans e_f5
    replace e_f6 := (he10.frozen e_6 (by simp only; omega)).trans e_f6
    replace e_0 := he10.cell e_0 (by simp only; omega)
    replace e_1 := he10.cell e_1 (by simp only; omega)
    replace e_2 := he10.cell e_2 (by simp only; omega)
    replace e_3 := he10.cell e_3 (by simp only; omega)
    replace e_4 := he10.cell e_4 (by simp only; omega)
    replace e_5 := he10.cell e_5 (by simp only; omega)
    replace e_6 := he10.cell e_6 (by simp only; omega)
    replace h_3 := he10.cell h_3 (by simp only; omega)
    replace res_l := Nat.lt_of_lt_of_le res_l hz10
    replace e_l := Nat.lt_of_lt_of_le e_l hz10
    clear he
    by_cases hq : q = 0
    · skip
      subst hq
      obtain ⟨res_0, res_1, res_2, res_3, res_4, res_5, res_6, res_f0, res_f1, res_f2, res_f3, res_f4, res_f5, res_f6⟩ := zr
      go_wp2_with fail
      have r0 : (((((((w10.setCell ⟨W.heap.size, 0, none⟩ (.int .i64 (1 + x))).setCell ⟨W.heap.size, 1, none⟩ (.int .i64 0)).setCell ⟨W.heap.size, 2, none⟩ (.int .i64 (1 + b))).setCell ⟨W.heap.size, 3, none⟩ (.int .i64 0)).setCell ⟨W.heap.size, 4, none⟩ (.int .i64 0)).setCell ⟨W.heap.size, 5, none⟩ (.int .i64 (n * 7))).setCell ⟨W.heap.size, 6, none⟩ (.bool false)).cell? ⟨W.heap.size, 0, none⟩ = some (.int .i64 (1 + x)) := set_other (set_other (set_other (set_other (set_other (set_other (set_same (res_0) _) _ (.inr (by omega))) _ (.inr (by omega))) _ (.inr (by omega))) _ (.inr (by omega))) _ (.inr (by omega))) _ (.inr (by omega))
      have r1 : (((((((w10.setCell ⟨W.heap.size, 0, none⟩ (.int .i64 (1 + x))).setCell ⟨W.heap.size, 1, none⟩ (.int .i64 0)).setCell ⟨W.heap.size, 2, none⟩ (.int .i64 (1 + b))).setCell ⟨W.heap.size, 3, none⟩ (.int .i64 0)).setCell ⟨W.heap.size, 4, none⟩ (.int .i64 0)).setCell ⟨W.heap.size, 5, none⟩ (.int .i64 (n * 7))).setCell ⟨W.heap.size, 6, none⟩ (.bool false)).cell? ⟨W.heap.size, 1, none⟩ = some (.int .i64 0) := set_other (set_other (set_other (set_other (set_other (set_same (set_other (res_1) _ (.inr (by omega))) _) _ (.inr (by omega))) _ (.inr (by omega))) _ (.inr (by omega))) _ (.inr (by omega))) _ (.inr (by omega))
      have r2 : (((((((w10.setCell ⟨W.heap.size, 0, none⟩ (.int .i64 (1 + x))).setCell ⟨W.heap.size, 1, none⟩ (.int .i64 0)).setCell ⟨W.heap.size, 2, none⟩ (.int .i64 (1 + b))).setCell ⟨W.heap.size, 3, none⟩ (.int .i64 0)).setCell ⟨W.heap.size, 4, none⟩ (.int .i64 0)).setCell ⟨W.heap.size, 5, none⟩ (.int .i64 (n * 7))).setCell ⟨W.heap.size, 6, none⟩ (.bool false)).cell? ⟨W.heap.size, 2, none⟩ = some (.int .i64 (1 + b)) := set_other (set_other (set_other (set_other (set_same (set_other (set_other (res_2) _ (.inr (by omega))) _ (.inr (by omega))) _) _ (.inr (by omega))) _ (.inr (by omega))) _ (.inr (by omega))) _ (.inr (by omega))
      have r3 : (((((((w10.setCell ⟨W.heap.size, 0, none⟩ (.int .i64 (1 + x))).setCell ⟨W.heap.size, 1, none⟩ (.int .i64 0)).setCell ⟨W.heap.size, 2, none⟩ (.int .i64 (1 + b))).setCell ⟨W.heap.size, 3, none⟩ (.int .i64 0)).setCell ⟨W.heap.size, 4, none⟩ (.int .i64 0)).setCell ⟨W.heap.size, 5, none⟩ (.int .i64 (n * 7))).setCell ⟨W.heap.size, 6, none⟩ (.bool false)).cell? ⟨W.heap.size, 3, none⟩ = some (.int .i64 0) := set_other (set_other (set_other (set_same (set_other (set_other (set_other (res_3) _ (.inr (by omega))) _ (.inr (by omega))) _ (.inr (by omega))) _) _ (.inr (by omega))) _ (.inr (by omega))) _ (.inr (by omega))
      have r4 : (((((((w10.setCell ⟨W.heap.size, 0, none⟩ (.int .i64 (1 + x))).setCell ⟨W.heap.size, 1, none⟩ (.int .i64 0)).setCell ⟨W.heap.size, 2, none⟩ (.int .i64 (1 + b))).setCell ⟨W.heap.size, 3, none⟩ (.int .i64 0)).setCell ⟨W.heap.size, 4, none⟩ (.int .i64 0)).setCell ⟨W.heap.size, 5, none⟩ (.int .i64 (n * 7))).setCell ⟨W.heap.size, 6, none⟩ (.bool false)).cell? ⟨W.heap.size, 4, none⟩ = some (.int .i64 0) := set_other (set_other (set_same (set_other (set_other (set_other (set_other (res_4) _ (.inr (by omega))) _ (.inr (by omega))) _ (.inr (by omega))) _ (.inr (by omega))) _) _ (.inr (by omega))) _ (.inr (by omega))
      have r5 : (((((((w10.setCell ⟨W.heap.size, 0, none⟩ (.int .i64 (1 + x))).setCell ⟨W.heap.size, 1, none⟩ (.int .i64 0)).setCell ⟨W.heap.size, 2, none⟩ (.int .i64 (1 + b))).setCell ⟨W.heap.size, 3, none⟩ (.int .i64 0)).setCell ⟨W.heap.size, 4, none⟩ (.int .i64 0)).setCell ⟨W.heap.size, 5, none⟩ (.int .i64 (n * 7))).setCell ⟨W.heap.size, 6, none⟩ (.bool false)).cell? ⟨W.heap.size, 5, none⟩ = some (.int .i64 (n * 7)) := set_other (set_same (set_other (set_other (set_other (set_other (set_other (res_5) _ (.inr (by omega))) _ (.inr (by omega))) _ (.inr (by omega))) _ (.inr (by omega))) _ (.inr (by omega))) _) _ (.inr (by omega))
      have r6 : (((((((w10.setCell ⟨W.heap.size, 0, none⟩ (.int .i64 (1 + x))).setCell ⟨W.heap.size, 1, none⟩ (.int .i64 0)).setCell ⟨W.heap.size, 2, none⟩ (.int .i64 (1 + b))).setCell ⟨W.heap.size, 3, none⟩ (.int .i64 0)).setCell ⟨W.heap.size, 4, none⟩ (.int .i64 0)).setCell ⟨W.heap.size, 5, none⟩ (.int .i64 (n * 7))).setCell ⟨W.heap.size, 6, none⟩ (.bool false)).cell? ⟨W.heap.size, 6, none⟩ = some (.bool false) := set_same (set_other (set_other (set_other (set_other (set_other (set_other (res_6) _ (.inr (by omega))) _ (.inr (by omega))) _ (.inr (by omega))) _ (.inr (by omega))) _ (.inr (by omega))) _ (.inr (by omega))) _
      refine bodyPost_ret (v := .agg #[.int .i64 (1 + x), .int .i64 0, .int .i64 (1 + b), .int .i64 0, .int .i64 0, .int .i64 (n * 7), .bool false]) (by simp [results, Tryd.results63, go_sem, r0, r1, r2, r3, r4, r5, r6]) rfl ?_
      exact EvPost.mk E10 hc (eff_set7 _ _ _ _ _ _ _ _ _) (by omega) (by omega)
    · skip
      have hq0 : (q == 0) = false := by simp; omega
      obtain ⟨res_0, res_1, res_2, res_3, res_4, res_5, res_6, res_f0, res_f1, res_f2, res_f3, res_f4, res_f5, res_f6⟩ := zr
      go_wp2_with fail
      have r0 : (((((((w10.setCell ⟨W.heap.size, 0, none⟩ (.int .i64 (1 + x))).setCell ⟨W.heap.size, 1, none⟩ (.int .i64 0)).setCell ⟨W.heap.size, 2, none⟩ (.int .i64 (1 + b))).setCell ⟨W.heap.size, 3, none⟩ (.int .i64 0)).setCell ⟨W.heap.size, 4, none⟩ (.int .i64 0)).setCell ⟨W.heap.size, 5, none⟩ (.int .i64 (n * 7))).setCell ⟨W.heap.size, 6, none⟩ (.bool false)).cell? ⟨W.heap.size, 0, none⟩ = some (.int .i64 (1 + x)) := set_other (set_other (set_other (set_other (set_other (set_other (set_same (res_0) _) _ (.inr (by omega))) _ (.inr (by omega))) _ (.inr (by omega))) _ (.inr (by omega))) _ (.inr (by omega))) _ (.inr (by omega))
      have r1 : (((((((w10.setCell ⟨W.heap.size, 0, none⟩ (.int .i64 (1 + x))).setCell ⟨W.heap.size, 1, none⟩ (.int .i64 0)).setCell ⟨W.heap.size, 2, none⟩ (.int .i64 (1 + b))).setCell ⟨W.heap.size, 3, none⟩ (.int .i64 0)).setCell ⟨W.heap.size, 4, none⟩ (.int .i64 0)).setCell ⟨W.heap.size, 5, none⟩ (.int .i64 (n * 7))).setCell ⟨W.heap.size, 6, none⟩ (.bool false)).cell? ⟨W.heap.size, 1, none⟩ = some (.int .i64 0) := set_other (set_other (set_other (set_other (set_other (set_same (set_other (res_1) _ (.inr (by omega))) _) _ (.inr (by omega))) _ (.inr (by omega))) _ (.inr (by omega))) _ (.inr (by omega))) _ (.inr (by omega))
      have r2 : (((((((w10.setCell ⟨W.heap.size, 0, none⟩ (.int .i64 (1 + x))).setCell ⟨W.heap.size, 1, none⟩ (.int .i64 0)).setCell ⟨W.heap.size, 2, none⟩ (.int .i64 (1 + b))).setCell ⟨W.heap.size, 3, none⟩ (.int .i64 0)).setCell ⟨W.heap.size, 4, none⟩ (.int .i64 0)).setCell ⟨W.heap.size, 5, none⟩ (.int .i64 (n * 7))).setCell ⟨W.heap.size, 6, none⟩ (.bool false)).cell? ⟨W.heap.size, 2, none⟩ = some (.int .i64 (1 + b)) := set_other (set_other (set_other (set_other (set_same (set_other (set_other (res_2) _ (.inr (by omega))) _ (.inr (by omega))) _) _ (.inr (by omega))) _ (.inr (by omega))) _ (.inr (by omega))) _ (.inr (by omega))
      have r3 : (((((((w10.setCell ⟨W.heap.size, 0, none⟩ (.int .i64 (1 + x))).setCell ⟨W.heap.size, 1, none⟩ (.int .i64 0)).setCell ⟨W.heap.size, 2, none⟩ (.int .i64 (1 + b))).setCell ⟨W.heap.size, 3, none⟩ (.int .i64 0)).setCell ⟨W.heap.size, 4, none⟩ (.int .i64 0)).setCell ⟨W.heap.size, 5, none⟩ (.int .i64 (n * 7))).setCell ⟨W.heap.size, 6, none⟩ (.bool false)).cell? ⟨W.heap.size, 3, none⟩ = some (.int .i64 0) := set_other (set_other (set_other (set_same (set_other (set_other (set_other (res_3) _ (.inr (by omega))) _ (.inr (by omega))) _ (.inr (by omega))) _) _ (.inr (by omega))) _ (.inr (by omega))) _ (.inr (by omega))
      have r4 : (((((((w10.setCell ⟨W.heap.size, 0, none⟩ (.int .i64 (1 + x))).setCell ⟨W.heap.size, 1, none⟩ (.int .i64 0)).setCell ⟨W.heap.size, 2, none⟩ (.int .i64 (1 + b))).setCell ⟨W.heap.size, 3, none⟩ (.int .i64 0)).setCell ⟨W.heap.size, 4, none⟩ (.int .i64 0)).setCell ⟨W.heap.size, 5, none⟩ (.int .i64 (n * 7))).setCell ⟨W.heap.size, 6, none⟩ (.bool false)).cell? ⟨W.heap.size, 4, none⟩ = some (.int .i64 0) := set_other (set_other (set_same (set_other (set_other (set_other (set_other (res_4) _ (.inr (by omega))) _ (.inr (by omega))) _ (.inr (by omega))) _ (.inr (by omega))) _) _ (.inr (by omega))) _ (.inr (by omega))
      have r5 : (((((((w10.setCell ⟨W.heap.size, 0, none⟩ (.int .i64 (1 + x))).setCell ⟨W.heap.size, 1, none⟩ (.int .i64 0)).setCell ⟨W.heap.size, 2, none⟩ (.int .i64 (1 + b))).setCell ⟨W.heap.size, 3, none⟩ (.int .i64 0)).setCell ⟨W.heap.size, 4, none⟩ (.int .i64 0)).setCell ⟨W.heap.size, 5, none⟩ (.int .i64 (n * 7))).setCell ⟨W.heap.size, 6, none⟩ (.bool false)).cell? ⟨W.heap.size, 5, none⟩ = some (.int .i64 (n * 7)) := set_other (set_same (set_other (set_other (set_other (set_other (set_other (res_5) _ (.inr (by omega))) _ (.inr (by omega))) _ (.inr (by omega))) _ (.inr (by omega))) _ (.inr (by omega))) _) _ (.inr (by omega))
      have r6 : (((((((w10.setCell ⟨W.heap.size, 0, none⟩ (.int .i64 (1 + x))).setCell ⟨W.heap.size, 1, none⟩ (.int .i64 0)).setCell ⟨W.heap.size, 2, none⟩ (.int .i64 (1 + b))).setCell ⟨W.heap.size, 3, none⟩ (.int .i64 0)).setCell ⟨W.heap.size, 4, none⟩ (.int .i64 0)).setCell ⟨W.heap.size, 5, none⟩ (.int .i64 (n * 7))).setCell ⟨W.heap.size, 6, none⟩ (.bool false)).cell? ⟨W.heap.size, 6, none⟩ = some (.bool false) := set_same (set_other (set_other (set_other (set_other (set_other (set_other (res_6) _ (.inr (by omega))) _ (.inr (by omega))) _ (.inr (by omega))) _ (.inr (by omega))) _ (.inr (by omega))) _ (.inr (by omega))) _
      refine bodyPost_ret (v := .agg #[.int .i64 (1 + x), .int .i64 0, .int .i64 (1 + b), .int .i64 0, .int .i64 0, .int .i64 (n * 7), .bool false]) (by simp [results, Tryd.results63, go_sem, r0, r1, r2, r3, r4, r5, r6]) rfl ?_
      exact EvPost.mk E10 hc (eff_set7 _ _ _ _ _ _ _ _ _) (by omega) (by omega)
  · skip
    have HP := Lib.hid hp
    clear hp
    go_wp2_with fail
    have he3 : Eff 0 0 w2 (w2.alloc (.cells #[.int .i64 (1 + x), .int .i64 0, .int .i64 0, .int .i64 0, .int .i64 0, .int .i64 0, .bool false] 32)) := Eff.alloc _ _
    have hs3 : (w2.alloc (.cells #[.int .i64 (1 + x), .int .i64 0, .int .i64 0, .int .i64 0, .int .i64 0, .int .i64 0, .bool false] 32)).heap.size = w2.heap.size + 1 := (by simp)
    have e_0 : (w2.alloc (.cells #[.int .i64 (1 + x), .int .i64 0, .int .i64 0, .int .i64 0, .int .i64 0, .int .i64 0, .bool false] 32)).cell? ⟨w2.heap.size, 0, none⟩ = some (.int .i64 (1 + x)) := var_cell _ _ _ _ _ rfl
    have e_1 : (w2.alloc (.cells #[.int .i64 (1 + x), .int .i64 0, .int .i64 0, .int .i64 0, .int .i64 0, .int .i64 0, .bool false] 32)).cell? ⟨w2.heap.size, 1, none⟩ = some (.int .i64 0) := var_cell _ _ _ _ _ rfl
    have e_2 : (w2.alloc (.cells #[.int .i64 (1 + x), .int .i64 0, .int .i64 0, .int .i64 0, .int .i64 0, .int .i64 0, .bool false] 32)).cell? ⟨w2.heap.size, 2, none⟩ = some (.int .i64 0) := var_cell _ _ _ _ _ rfl
    have e_3 : (w2.alloc (.cells #[.int .i64 (1 + x), .int .i64 0, .int .i64 0, .int .i64 0, .int .i64 0, .int .i64 0, .bool false] 32)).cell? ⟨w2.heap.size, 3, none⟩ = some (.int .i64 0) := var_cell _ _ _ _ _ rfl
    have e_4 : (w2.alloc (.cells #[.int .i64 (1 + x), .int .i64 0, .int .i64 0, .int .i64 0, .int .i64 0, .int .i64 0, .bool false] 32)).cell? ⟨w2.heap.size, 4, none⟩ = some (.int .i64 0) := var_cell _ _ _ _ _ rfl
    have e_5 : (w2.alloc (.cells #[.int .i64 (1 + x), .int .i64 0, .int .i64 0, .int .i64 0, .int .i64 0, .int .i64 0, .bool false] 32)).cell? ⟨w2.heap.size, 5, none⟩ = some (.int .i64 0) := var_cell _ _ _ _ _ rfl
    have e_6 : (w2.alloc (.cells #[.int .i64 (1 + x), .int .i64 0, .int .i64 0, .int .i64 0, .int .i64 0, .int .i64 0, .bool false] 32)).cell? ⟨w2.heap.size, 6, none⟩ = some (.bool false) := var_cell _ _ _ _ _ rfl
    have e_f0 : (w2.alloc (.cells #[.int .i64 (1 + x), .int .i64 0, .int .i64 0, .int .i64 0, .int .i64 0, .int .i64 0, .bool false] 32)).frozen? ⟨w2.heap.size, 0, none⟩ = false := var_frozen _ _ _ _
    have e_f1 : (w2.alloc (.cells #[.int .i64 (1 + x), .int .i64 0, .int .i64 0, .int .i64 0, .int .i64 0, .int .i64 0, .bool false] 32)).frozen? ⟨w2.heap.size, 1, none⟩ = false := var_frozen _ _ _ _
    have e_f2 : (w2.alloc (.cells #[.int .i64 (1 + x), .int .i64 0, .int .i64 0, .int .i64 0, .int .i64 0, .int .i64 0, .bool false] 32)).frozen? ⟨w2.heap.size, 2, none⟩ = false := var_frozen _ _ _ _
    have e_f3 : (w2.alloc (.cells #[.int .i64 (1 + x), .int .i64 0, .int .i64 0, .int .i64 0, .int .i64 0, .int .i64 0, .bool false] 32)).frozen? ⟨w2.heap.size, 3, none⟩ = false := var_frozen _ _ _ _
    have e_f4 : (w2.alloc (.cells #[.int .i64 (1 + x), .int .i64 0, .int .i64 0, .int .i64 0, .int .i64 0, .int .i64 0, .bool false] 32)).frozen? ⟨w2.heap.size, 4, none⟩ = false := var_frozen _ _ _ _
    have e_f5 : (w2.alloc (.cells #[.int .i64 (1 + x), .int .i64 0, .int .i64 0, .int .i64 0, .int .i64 0, .int .i64 0, .bool false] 32)).frozen? ⟨w2.heap.size, 5, none⟩ = false := var_frozen _ _ _ _
    have e_f6 : (w2.alloc (.cells #[.int .i64 (1 + x), .int .i64 0, .int .i64 0, .int .i64 0, .int .i64 0, .int .i64 0, .bool false] 32)).frozen? ⟨w2.heap.size, 6, none⟩ = false := var_frozen _ _ _ _
    generalize (w2.alloc (.cells #[.int .i64 (1 + x), .int .i64 0, .int .i64 0, .int .i64 0, .int .i64 0, .int .i64 0, .bool false] 32)) = w3 at *
    have hz3 : w2.heap.size ≤ w3.heap.size := he3.size
    have E3 : Eff g (g + 1) W w3 := E2.step he3 (by omega)
    have S3 := E3.size
    replace zr := zr.keep he3 (by omega)
    replace res_l := Nat.lt_of_lt_of_le res_l hz3
    replace hc := hc.keep he3 (by omega) (by omega)
    have e_l : w2.heap.size < w3.heap.size := (by omega)
    have hVH : w2.heap.size < w3.heap.size := by omega
    clear hs3
    refine (l04HasC (1 + x) q0 q1 w3.heap.size w3 rfl).mono ?_
    rintro e w4 ⟨rfl, h_0, h_1, h_2, h_3, h_4, h_5, he⟩
    rw [HP.out] at h_0 h_1 h_2 h_3 h_4 h_5
    have he4 : Eff (0) (0) w3 w4 := he
    have hz4 : w3.heap.size ≤ w4.heap.size := he4.size
    have E4 : Eff g (g + 1) W w4 := E3.step he4 (by omega)
    have S4 := E4.size
    replace zr := zr.keep he4 (by omega)
    replace e_f0 := (he4.frozen e_0 (by simp only; omega)).trans e_f0
    replace e_f1 := (he4.frozen e_1 (by simp only; omega)).trans e_f1
    replace e_f2 := (he4.frozen e_2 (by simp only; omega)).trans e_f2
    replace e_f3 := (he4.frozen e_3 (by simp only; omega)).trans e_f3
    replace e_f4 := (he4.frozen e_4 (by simp only; omega)).trans e_f4
    replace e_f5 := (he4.frozen e_5 (by simp only; omega)).trans e_f5
    replace e_f6 := (he4.frozen e_6 (by simp only; omega)).trans e_f6
    replace e_0 := he4.cell e_0 (by simp only; omega)
    replace e_1 := he4.cell e_1 (by simp only; omega)
    replace e_2 := he4.cell e_2 (by simp only; omega)
    replace e_3 := he4.cell e_3 (by simp only; omega)
    replace e_4 := he4.cell e_4 (by simp only; omega)
    replace e_5 := he4.cell e_5 (by simp only; omega)
    replace e_6 := he4.cell e_6 (by simp only; omega)
    replace res_l := Nat.lt_of_lt_of_le res_l hz4
    replace e_l := Nat.lt_of_lt_of_le e_l hz4
    replace hc := hc.keep he4 (by omega) (by omega)
    clear he
    have h_l : w3.heap.size < w4.heap.size := World.block_lt_of_cell? _ _ h_0
    go_wp2_with fail
    refine (l01Below_any B g (6) (by omega) w4 hc).mono ?_
    rintro e w5 hpost
    obtain ⟨a, rfl, ⟨a_0, a_1, -⟩, hc, he⟩ := hpost.eff
    clear hpost
    replace a_1 := a_1 (by omega)
    have he5 : Eff (g) (g + 1) w4 w5 := he
    have hz5 : w4.heap.size ≤ w5.heap.size := he5.size
    have E5 : Eff g (g + 1) W w5 := E4.step he5 (by omega)
    have S5 := E5.size
    replace zr := zr.keep he5 (by omega)
    replace e_f0 := (he5.frozen e_0 (by simp only; omega)).trans e_f0
    replace e_f1 := (he5.frozen e_1 (by simp only; omega)).trans e_f1
    replace e_f2 := (he5.frozen e_2 (by simp only; omega)).trans e_f2
    replace e_f3 := (he5.frozen e_3 (by simp only; omega)).trans e_f3
    replace e_f4 := (he5.frozen e_4 (by simp only; omega)).trans e_f4
    replace e_f5 := (he5.frozen e_5 (by simp only; omega)).trans e_f5
    replace e_f6 := (he5.frozen e_6 (by simp only; omega)).trans e_f6
    replace e_0 := he5.cell e_0 (by simp only; omega)
    replace e_1 := he5.cell e_1 (by simp only; omega)
    replace e_2 := he5.cell e_2 (by simp only; omega)
    replace e_3 := he5.cell e_3 (by simp only; omega)
    replace e_4 := he5.cell e_4 (by simp only; omega)
    replace e_5 := he5.cell e_5 (by simp only; omega)
    replace e_6 := he5.cell e_6 (by simp only; omega)
    replace h_0 := he5.cell h_0 (by simp only; omega)
    replace h_1 := he5.cell h_1 (by simp only; omega)
    replace h_2 := he5.cell h_2 (by simp only; omega)
    replace h_3 := he5.cell h_3 (by simp only; omega)
    replace h_4 := he5.cell h_4 (by simp only; omega)
    replace h_5 := he5.cell h_5 (by simp only; omega)
    replace res_l := Nat.lt_of_lt_of_le res_l hz5
    replace e_l := Nat.lt_of_lt_of_le e_l hz5
    clear he
    go_upto_region 6 with fail
    clear h_0
    have he6 : Eff (w2.heap.size) (w2.heap.size + 1) w5 (w5.setCell ⟨w2.heap.size, 1, none⟩ (.int .i64 (1 + a))) := eff_set _ _ _ _
    replace e_f0 := set_frozen (p := ⟨w2.heap.size, 1, none⟩) e_f0 (.int .i64 (1 + a))
    replace e_f1 := set_frozen (p := ⟨w2.heap.size, 1, none⟩) e_f1 (.int .i64 (1 + a))
    replace e_f2 := set_frozen (p := ⟨w2.heap.size, 1, none⟩) e_f2 (.int .i64 (1 + a))
    replace e_f3 := set_frozen (p := ⟨w2.heap.size, 1, none⟩) e_f3 (.int .i64 (1 + a))
    replace e_f4 := set_frozen (p := ⟨w2.heap.size, 1, none⟩) e_f4 (.int .i64 (1 + a))
    replace e_f5 := set_frozen (p := ⟨w2.heap.size, 1, none⟩) e_f5 (.int .i64 (1 + a))
    replace e_f6 := set_frozen (p := ⟨w2.heap.size, 1, none⟩) e_f6 (.int .i64 (1 + a))
    replace e_0 := set_other (b' := w2.heap.size) (o' := 1) e_0 (.int .i64 (1 + a)) (.inr (by omega))
    replace e_1 := set_same e_1 (.int .i64 (1 + a))
    replace e_2 := set_other (b' := w2.heap.size) (o' := 1) e_2 (.int .i64 (1 + a)) (.inr (by omega))
    replace e_3 := set_other (b' := w2.heap.size) (o' := 1) e_3 (.int .i64 (1 + a)) (.inr (by omega))
    replace e_4 := set_other (b' := w2.heap.size) (o' := 1) e_4 (.int .i64 (1 + a)) (.inr (by omega))
    replace e_5 := set_other (b' := w2.heap.size) (o' := 1) e_5 (.int .i64 (1 + a)) (.inr (by omega))
    replace e_6 := set_other (b' := w2.heap.size) (o' := 1) e_6 (.int .i64 (1 + a)) (.inr (by omega))
    replace h_1 := he6.cell h_1 (by simp only; omega)
    replace h_2 := he6.cell h_2 (by simp only; omega)
    replace h_3 := he6.cell h_3 (by simp only; omega)
    replace h_4 := he6.cell h_4 (by simp only; omega)
    replace h_5 := he6.cell h_5 (by simp only; omega)
    have hz6 : w5.heap.size ≤ (w5.setCell ⟨w2.heap.size, 1, none⟩ (.int .i64 (1 + a))).heap.size := he6.size
    generalize (w5.setCell ⟨w2.heap.size, 1, none⟩ (.int .i64 (1 + a))) = w6 at *
    have E6 : Eff g (g + 1) W w6 := E5.step he6 (by omega)
    have S6 := E6.size
    replace zr := zr.keep he6 (by omega)
    replace res_l := Nat.lt_of_lt_of_le res_l hz6
    replace e_l := Nat.lt_of_lt_of_le e_l hz6
    replace hc := hc.keep he6 (by omega) (by omega)
    go_wp2_with fail
    refine (l01Below_any B g (4) (by omega) w6 hc).mono ?_
    rintro e w7 hpost
    obtain ⟨b, rfl, ⟨b_0, b_1, -⟩, hc, he⟩ := hpost.eff
    clear hpost
    replace b_1 := b_1 (by omega)
    have he7 : Eff (g) (g + 1) w6 w7 := he
    have hz7 : w6.heap.size ≤ w7.heap.size := he7.size
    have E7 : Eff g (g + 1) W w7 := E6.step he7 (by omega)
    have S7 := E7.size
    replace zr := zr.keep he7 (by omega)
    replace e_f0 := (he7.frozen e_0 (by simp only; omega)).trans e_f0
    replace e_f1 := (he7.frozen e_1 (by simp only; omega)).trans e_f1
    replace e_f2 := (he7.frozen e_2 (by simp only; omega)).trans e_f2
    replace e_f3 := (he7.frozen e_3 (by simp only; omega)).trans e_f3
    replace e_f4 := (he7.frozen e_4 (by simp only; omega)).trans e_f4
    replace e_f5 := (he7.frozen e_5 (by simp only; omega)).trans e_f5
    replace e_f6 := (he7.frozen e_6 (by simp only; omega)).trans e_f6
    replace e_0 := he7.cell e_0 (by simp only; omega)
    replace e_1 := he7.cell e_1 (by simp only; omega)
    replace e_2 := he7.cell e_2 (by simp only; omega)
    replace e_3 := he7.cell e_3 (by simp only; omega)
    replace e_4 := he7.cell e_4 (by simp only; omega)
    replace e_5 := he7.cell e_5 (by simp only; omega)
    replace e_6 := he7.cell e_6 (by simp only; omega)
    replace h_1 := he7.cell h_1 (by simp only; omega)
    replace h_2 := he7.cell h_2 (by simp only; omega)
    replace h_3 := he7.cell h_3 (by simp only; omega)
    replace h_4 := he7.cell h_4 (by simp only; omega)
    replace h_5 := he7.cell h_5 (by simp only; omega)
    replace res_l := Nat.lt_of_lt_of_le res_l hz7
    replace e_l := Nat.lt_of_lt_of_le e_l hz7
    clear he
    go_upto_region 8 with fail
    clear h_1
    have he8 : Eff (w2.heap.size) (w2.heap.size + 1) w7 (w7.setCell ⟨w2.heap.size, 2, none⟩ (.int .i64 (1 + b))) := eff_set _ _ _ _
    replace e_f0 := set_frozen (p := ⟨w2.heap.size, 2, none⟩) e_f0 (.int .i64 (1 + b))
    replace e_f1 := set_frozen (p := ⟨w2.heap.size, 2, none⟩) e_f1 (.int .i64 (1 + b))
    replace e_f2 := set_frozen (p := ⟨w2.heap.size, 2, none⟩) e_f2 (.int .i64 (1 + b))
    replace e_f3 := set_frozen (p := ⟨w2.heap.size, 2, none⟩) e_f3 (.int .i64 (1 + b))
    replace e_f4 := set_frozen (p := ⟨w2.heap.size, 2, none⟩) e_f4 (.int .i64 (1 + b))
    replace e_f5 := set_frozen (p := ⟨w2.heap.size, 2, none⟩) e_f5 (.int .i64 (1 + b))
    replace e_f6 := set_frozen (p := ⟨w2.heap.size, 2, none⟩) e_f6 (.int .i64 (1 + b))
    replace e_0 := set_other (b' := w2.heap.size) (o' := 2) e_0 (.int .i64 (1 + b)) (.inr (by omega))
    replace e_1 := set_other (b' := w2.heap.size) (o' := 2) e_1 (.int .i64 (1 + b)) (.inr (by omega))
    replace e_2 := set_same e_2 (.int .i64 (1 + b))
    replace e_3 := set_other (b' := w2.heap.size) (o' := 2) e_3 (.int .i64 (1 + b)) (.inr (by omega))
    replace e_4 := set_other (b' := w2.heap.size) (o' := 2) e_4 (.int .i64 (1 + b)) (.inr (by omega))
    replace e_5 := set_other (b' := w2.heap.size) (o' := 2) e_5 (.int .i64 (1 + b)) (.inr (by omega))
    replace e_6 := set_other (b' := w2.heap.size) (o' := 2) e_6 (.int .i64 (1 + b)) (.inr (by omega))
    replace h_2 := he8.cell h_2 (by simp only; omega)
    replace h_3 := he8.cell h_3 (by simp only; omega)
    replace h_4 := he8.cell h_4 (by simp only; omega)
    replace h_5 := he8.cell h_5 (by simp only; omega)
    have hz8 : w7.heap.size ≤ (w7.setCell ⟨w2.heap.size, 2, none⟩ (.int .i64 (1 + b))).heap.size := he8.size
    generalize (w7.setCell ⟨w2.heap.size, 2, none⟩ (.int .i64 (1 + b))) = w8 at *
    have E8 : Eff g (g + 1) W w8 := E7.step he8 (by omega)
    have S8 := E8.size
    replace zr := zr.keep he8 (by omega)
    replace res_l := Nat.lt_of_lt_of_le res_l hz8
    replace e_l := Nat.lt_of_lt_of_le e_l hz8
    replace hc := hc.keep he8 (by omega) (by omega)
    have wx1 : IntKind.i64.wrap (1 + b) = 1 + b := IntWalk.i64_in _ (by omega)
    go_wp2_with fail
    have he9 : Eff 0 0 w8 w8.drew := (Eff.refl _ _ _).drew
    have hz9 : w8.heap.size ≤ w8.drew.heap.size := he9.size
    have E9 : Eff g (g + 1) W w8.drew := E8.step he9 (by omega)
    have S9 := E9.size
    replace zr := zr.keep he9 (by omega)
    replace e_f0 := (he9.frozen e_0 (by simp only; omega)).trans e_f0
    replace e_f1 := (he9.frozen e_1 (by simp only; omega)).trans e_f1
    replace e_f2 := (he9.frozen e_2 (by simp only; omega)).trans e_f2
    replace e_f3 := (he9.frozen e_3 (by simp only; omega)).trans e_f3
    replace e_f4 := (he9.frozen e_4 (by simp only; omega)).trans e_f4
    replace e_f5 := (he9.frozen e_5 (by simp only; omega)).trans e_f5
    replace e_f6 := (he9.frozen e_6 (by simp only; omega)).trans e_f6
    replace e_0 := he9.cell e_0 (by simp only; omega)
    replace e_1 := he9.cell e_1 (by simp only; omega)
    replace e_2 := he9.cell e_2 (by simp only; omega)
    replace e_3 := he9.cell e_3 (by simp only; omega)
    replace e_4 := he9.cell e_4 (by simp only; omega)
    replace e_5 := he9.cell e_5 (by simp only; omega)
    replace e_6 := he9.cell e_6 (by simp only; omega)
    replace h_2 := he9.cell h_2 (by simp only; omega)
    replace h_3 := he9.cell h_3 (by simp only; omega)
    replace h_4 := he9.cell h_4 (by simp only; omega)
    replace h_5 := he9.cell h_5 (by simp only; omega)
    replace res_l := Nat.lt_of_lt_of_le res_l hz9
    replace e_l := Nat.lt_of_lt_of_le e_l hz9
    replace hc := hc.keep he9 (by omega) (by omega)
    go_region_held3 (fun w' => w'.cell? ⟨w2.heap.size, 2, none⟩ = some (.int .i64 (1 + b))) ((go_split_ands; (repeat' apply And.intro) <;> (first | assumption | (exact set_other (by assumption) _ (.inr (by omega)))))) (first | (go_at_call 57; refine (l01Below_any B g 3 (by omega) w8.drew hc).mono ?_; rintro e w10 hpost; obtain ⟨t, rfl, ⟨t_0, t_1, -⟩, hc, he⟩ := hpost.eff; clear hpost; replace t_1 := t_1 (by omega); have he10 : Eff (g) (g + 1) w8.drew w10 := he; have hz10 : w8.drew.heap.size ≤ w10.heap.size := he10.size; have E10 : Eff g (g + 1) W w10 := E9.step he10 (by omega); have S10 := E10.size; replace zr := zr.keep he10 (by omega); replace e_f0 := (he10.frozen e_0 (by simp only; omega)).trans e_f0; replace e_f1 := (he10.frozen e_1 (by simp only; omega)).trans e_f1; replace e_f2 := (he10.frozen e_2 (by simp only; omega)).trans e_f2; replace e_f3 := (he10.frozen e_3 (by simp only; omega)).trans e_f3; replace e_f4 := (he10.frozen e_4 (by simp only; omega)).trans e_f4; replace e_f5 := (he10.frozen e_5 (by simp only; omega)).trans e_f5; replace e_f6 := (he10.frozen e_6 (by simp only; omega)).trans e_f6; replace e_0 := he10.cell e_0 (by simp only; omega); replace e_1 := he10.cell e_1 (by simp only; omega); replace e_2 := he10.cell e_2 (by simp only; omega); replace e_3 := he10.cell e_3 (by simp only; omega); replace e_4 := he10.cell e_4 (by simp only; omega); replace e_5 := he10.cell e_5 (by simp only; omega); replace e_6 := he10.cell e_6 (by simp only; omega); replace h_2 := he10.cell h_2 (by simp only; omega); replace h_3 := he10.cell h_3 (by simp only; omega); replace h_4 := he10.cell h_4 (by simp only; omega); replace h_5 := he10.cell h_5 (by simp only; omega); replace res_l := Nat.lt_of_lt_of_le res_l hz10; replace e_l := Nat.lt_of_lt_of_le e_l hz10; clear he))
    have wx2 : IntKind.i64.wrap (1 + b + t) = 1 + b + t := IntWalk.i64_in _ (by omega)
    go_upto_region 10 with fail
    clear h_2
    obtain ⟨to, hto⟩ : ∃ x, IntKind.i64.wrap (1 + (IntKind.i64.wrap (1 + b + t)).tmod 4) = x := ⟨_, rfl⟩
    rw [hto]
    clear hto wx1 wx2
    have he11 : Eff (w2.heap.size) (w2.heap.size + 1) w10 (w10.setCell ⟨w2.heap.size, 3, none⟩ (.int .i64 to)) := eff_set _ _ _ _
    replace e_f0 := set_frozen (p := ⟨w2.heap.size, 3, none⟩) e_f0 (.int .i64 to)
    replace e_f1 := set_frozen (p := ⟨w2.heap.size, 3, none⟩) e_f1 (.int .i64 to)
    replace e_f2 := set_frozen (p := ⟨w2.heap.size, 3, none⟩) e_f2 (.int .i64 to)
    replace e_f3 := set_frozen (p := ⟨w2.heap.size, 3, none⟩) e_f3 (.int .i64 to)
    replace e_f4 := set_frozen (p := ⟨w2.heap.size, 3, none⟩) e_f4 (.int .i64 to)
    replace e_f5 := set_frozen (p := ⟨w2.heap.size, 3, none⟩) e_f5 (.int .i64 to)
    replace e_f6 := set_frozen (p := ⟨w2.heap.size, 3, none⟩) e_f6 (.int .i64 to)
    replace e_0 := set_other (b' := w2.heap.size) (o' := 3) e_0 (.int .i64 to) (.inr (by omega))
    replace e_1 := set_other (b' := w2.heap.size) (o' := 3) e_1 (.int .i64 to) (.inr (by omega))
    replace e_2 := set_other (b' := w2.heap.size) (o' := 3) e_2 (.int .i64 to) (.inr (by omega))
    replace e_3 := set_same e_3 (.int .i64 to)
    replace e_4 := set_other (b' := w2.heap.size) (o' := 3) e_4 (.int .i64 to) (.inr (by omega))
    replace e_5 := set_other (b' := w2.heap.size) (o' := 3) e_5 (.int .i64 to) (.inr (by omega))
    replace e_6 := set_other (b' := w2.heap.size) (o' := 3) e_6 (.int .i64 to) (.inr (by omega))
    replace h_3 := he11.cell h_3 (by simp only; omega)
    replace h_4 := he11.cell h_4 (by simp only; omega)
    replace h_5 := he11.cell h_5 (by simp only; omega)
    have hz11 : w10.heap.size ≤ (w10.setCell ⟨w2.heap.size, 3, none⟩ (.int .i64 to)).heap.size := he11.size
    generalize (w10.setCell ⟨w2.heap.size, 3, none⟩ (.int .i64 to)) = w11 at *
    have E11 : Eff g (g + 1) W w11 := E10.step he11 (by omega)
    have S11 := E11.size
    replace zr := zr.keep he11 (by omega)
    replace res_l := Nat.lt_of_lt_of_le res_l hz11
    replace e_l := Nat.lt_of_lt_of_le e_l hz11
    replace hc := hc.keep he11 (by omega) (by omega)
    go_wp2_with fail
    refine (l01Below_any B g (400) (by omega) w11 hc).mono ?_
    rintro e w12 hpost
    obtain ⟨m, rfl, ⟨m_0, m_1, -⟩, hc, he⟩ := hpost.eff
    clear hpost
    replace m_1 := m_1 (by omega)
    have he12 : Eff (g) (g + 1) w11 w12 := he
    have hz12 : w11.heap.size ≤ w12.heap.size := he12.size
    have E12 : Eff g (g + 1) W w12 := E11.step he12 (by omega)
    have S12 := E12.size
    replace zr := zr.keep he12 (by omega)
    replace e_f0 := (he12.frozen e_0 (by simp only; omega)).trans e_f0
    replace e_f1 := (he12.frozen e_1 (by simp only; omega)).trans e_f1
    replace e_f2 := (he12.frozen e_2 (by simp only; omega)).trans e_f2
    replace e_f3 := (he12.frozen e_3 (by simp only; omega)).trans e_f3
    replace e_f4 := (he12.frozen e_4 (by simp only; omega)).trans e_f4
    replace e_f5 := (he12.frozen e_5 (by simp only; omega)).trans e_f5
    replace e_f6 := (he12.frozen e_6 (by simp only; omega)).trans e_f6
    replace e_0 := he12.cell e_0 (by simp only; omega)
    replace e_1 := he12.cell e_1 (by simp only; omega)
    replace e_2 := he12.cell e_2 (by simp only; omega)
    replace e_3 := he12.cell e_3 (by simp only; omega)
    replace e_4 := he12.cell e_4 (by simp only; omega)
    replace e_5 := he12.cell e_5 (by simp only; omega)
    replace e_6 := he12.cell e_6 (by simp only; omega)
    replace h_3 := he12.cell h_3 (by simp only; omega)
    replace h_4 := he12.cell h_4 (by simp only; omega)
    replace h_5 := he12.cell h_5 (by simp only; omega)
    replace res_l := Nat.lt_of_lt_of_le res_l hz12
    replace e_l := Nat.lt_of_lt_of_le e_l hz12
    clear he
    go_upto_region 12 with fail
    have he13 : Eff (w2.heap.size) (w2.heap.size + 1) w12 (w12.setCell ⟨w2.heap.size, 4, none⟩ (.int .i64 (1 + m * 25))) := eff_set _ _ _ _
    replace e_f0 := set_frozen (p := ⟨w2.heap.size, 4, none⟩) e_f0 (.int .i64 (1 + m * 25))
    replace e_f1 := set_frozen (p := ⟨w2.heap.size, 4, none⟩) e_f1 (.int .i64 (1 + m * 25))
    replace e_f2 := set_frozen (p := ⟨w2.heap.size, 4, none⟩) e_f2 (.int .i64 (1 + m * 25))
    replace e_f3 := set_frozen (p := ⟨w2.heap.size, 4, none⟩) e_f3 (.int .i64 (1 + m * 25))
    replace e_f4 := set_frozen (p := ⟨w2.heap.size, 4, none⟩) e_f4 (.int .i64 (1 + m * 25))
    replace e_f5 := set_frozen (p := ⟨w2.heap.size, 4, none⟩) e_f5 (.int .i64 (1 + m * 25))
    replace e_f6 := set_frozen (p := ⟨w2.heap.size, 4, none⟩) e_f6 (.int .i64 (1 + m * 25))
    replace e_0 := set_other (b' := w2.heap.size) (o' := 4) e_0 (.int .i64 (1 + m * 25)) (.inr (by omega))
    replace e_1 := set_other (b' := w2.heap.size) (o' := 4) e_1 (.int .i64 (1 + m * 25)) (.inr (by omega))
    replace e_2 := set_other (b' := w2.heap.size) (o' := 4) e_2 (.int .i64 (1 + m * 25)) (.inr (by omega))
    replace e_3 := set_other (b' := w2.heap.size) (o' := 4) e_3 (.int .i64 (1 + m * 25)) (.inr (by omega))
    replace e_4 := set_same e_4 (.int .i64 (1 + m * 25))
    replace e_5 := set_other (b' := w2.heap.size) (o' := 4) e_5 (.int .i64 (1 + m * 25)) (.inr (by omega))
    replace e_6 := set_other (b' := w2.heap.size) (o' := 4) e_6 (.int .i64 (1 + m * 25)) (.inr (by omega))
    replace h_3 := he13.cell h_3 (by simp only; omega)
    replace h_4 := he13.cell h_4 (by simp only; omega)
    replace h_5 := he13.cell h_5 (by simp only; omega)
    have hz13 : w12.heap.size ≤ (w12.setCell ⟨w2.heap.size, 4, none⟩ (.int .i64 (1 + m * 25))).heap.size := he13.size
    generalize (w12.setCell ⟨w2.heap.size, 4, none⟩ (.int .i64 (1 + m * 25))) = w13 at *
    have E13 : Eff g (g + 1) W w13 := E12.step he13 (by omega)
    have S13 := E13.size
    replace zr := zr.keep he13 (by omega)
    replace res_l := Nat.lt_of_lt_of_le res_l hz13
    replace e_l := Nat.lt_of_lt_of_le e_l hz13
    replace hc := hc.keep he13 (by omega) (by omega)
    go_wp2_with fail
    refine (l01Below_any B g (2) (by omega) w13 hc).mono ?_
    rintro e w14 hpost
    obtain ⟨y, rfl, ⟨y_0, y_1, -⟩, hc, he⟩ := hpost.eff
    clear hpost
    replace y_1 := y_1 (by omega)
    have he14 : Eff (g) (g + 1) w13 w14 := he
    have hz14 : w13.heap.size ≤ w14.heap.size := he14.size
    have E14 : Eff g (g + 1) W w14 := E13.step he14 (by omega)
    have S14 := E14.size
    replace zr := zr.keep he14 (by omega)
    replace e_f0 := (he14.frozen e_0 (by simp only; omega)).trans e_f0
    replace e_f1 := (he14.frozen e_1 (by simp only; omega)).trans e_f1
    replace e_f2 := (he14.frozen e_2 (by simp only; omega)).trans e_f2
    replace e_f3 := (he14.frozen e_3 (by simp only; omega)).trans e_f3
    replace e_f4 := (he14.frozen e_4 (by simp only; omega)).trans e_f4
    replace e_f5 := (he14.frozen e_5 (by simp only; omega)).trans e_f5
    replace e_f6 := (he14.frozen e_6 (by simp only; omega)).trans e_f6
    replace e_0 := he14.cell e_0 (by simp only; omega)
    replace e_1 := he14.cell e_1 (by simp only; omega)
    replace e_2 := he14.cell e_2 (by simp only; omega)
    replace e_3 := he14.cell e_3 (by simp only; omega)
    replace e_4 := he14.cell e_4 (by simp only; omega)
    replace e_5 := he14.cell e_5 (by simp only; omega)
    replace e_6 := he14.cell e_6 (by simp only; omega)
    replace h_3 := he14.cell h_3 (by simp only; omega)
    replace h_4 := he14.cell h_4 (by simp only; omega)
    replace h_5 := he14.cell h_5 (by simp only; omega)
    replace res_l := Nat.lt_of_lt_of_le res_l hz14
    replace e_l := Nat.lt_of_lt_of_le e_l hz14
    clear he
    go_upto_region 15 with fail
    clear h_4
    clear h_5
    have he15 : Eff (w2.heap.size) (w2.heap.size + 1) w14 (w14.setCell ⟨w2.heap.size, 6, none⟩ (.bool (y == 0))) := eff_set _ _ _ _
    replace e_f0 := set_frozen (p := ⟨w2.heap.size, 6, none⟩) e_f0 (.bool (y == 0))
    replace e_f1 := set_frozen (p := ⟨w2.heap.size, 6, none⟩) e_f1 (.bool (y == 0))
    replace e_f2 := set_frozen (p := ⟨w2.heap.size, 6, none⟩) e_f2 (.bool (y == 0))
    replace e_f3 := set_frozen (p := ⟨w2.heap.size, 6, none⟩) e_f3 (.bool (y == 0))
    replace e_f4 := set_frozen (p := ⟨w2.heap.size, 6, none⟩) e_f4 (.bool (y == 0))
    replace e_f5 := set_frozen (p := ⟨w2.heap.size, 6, none⟩) e_f5 (.bool (y == 0))
    replace e_f6 := set_frozen (p := ⟨w2.heap.size, 6, none⟩) e_f6 (.bool (y == 0))
    replace e_0 := set_other (b' := w2.heap.size) (o' := 6) e_0 (.bool (y == 0)) (.inr (by omega))
    replace e_1 := set_other (b' := w2.heap.size) (o' := 6) e_1 (.bool (y == 0)) (.inr (by omega))
    replace e_2 := set_other (b' := w2.heap.size) (o' := 6) e_2 (.bool (y == 0)) (.inr (by omega))
    replace e_3 := set_other (b' := w2.heap.size) (o' := 6) e_3 (.bool (y == 0)) (.inr (by omega))
    replace e_4 := set_other (b' := w2.heap.size) (o' := 6) e_4 (.bool (y == 0)) (.inr (by omega))
    replace e_5 := set_other (b' := w2.heap.size) (o' := 6) e_5 (.bool (y == 0)) (.inr (by omega))
    replace e_6 := set_same e_6 (.bool (y == 0))
    replace h_3 := he15.cell h_3 (by simp only; omega)
    have hz15 : w14.heap.size ≤ (w14.setCell ⟨w2.heap.size, 6, none⟩ (.bool (y == 0))).heap.size := he15.size
    generalize (w14.setCell ⟨w2.heap.size, 6, none⟩ (.bool (y == 0))) = w15 at *
    have E15 : Eff g (g + 1) W w15 := E14.step he15 (by omega)
    have S15 := E15.size
    replace zr := zr.keep he15 (by omega)
    replace res_l := Nat.lt_of_lt_of_le res_l hz15
    replace e_l := Nat.lt_of_lt_of_le e_l hz15
    replace hc := hc.keep he15 (by omega) (by omega)
    go_wp2_with fail
    refine (l01Below_any B g (14) (by omega) w15 hc).mono ?_
    rintro e w16 hpost
    obtain ⟨q, rfl, ⟨q_0, q_1, -⟩, hc, he⟩ := hpost.eff
    clear hpost
    replace q_1 := q_1 (by omega)
    have he16 : Eff (g) (g + 1) w15 w16 := he
    have hz16 : w15.heap.size ≤ w16.heap.size := he16.size
    have E16 : Eff g (g + 1) W w16 := E15.step he16 (by omega)
    have S16 := E16.size
    replace zr := zr.keep he16 (by omega)
    replace e_f0 := (he16.frozen e_0 (by simp only; omega)).trans e_f0
    replace e_f1 := (he16.frozen e_1 (by simp only; omega)).trans e_f1
    replace e_f2 := (he16.frozen e_2 (by simp only; omega)).trans e_f2
    replace e_f3 := (he16.frozen e_3 (by simp only; omega)).trans e_f3
    replace e_f4 := (he16.frozen e_4 (by simp only; omega)).trans e_f4
    replace e_f5 := (he16.frozen e_5 (by simp only; omega)).trans e_f5
    replace e_f6 := (he16.frozen e_6 (by simp only; omega)).trans e_f6
    replace e_0 := he16.cell e_0 (by simp only; omega)
    replace e_1 := he16.cell e_1 (by simp only; omega)
    replace e_2 := he16.cell e_2 (by simp only; omega)
    replace e_3 := he16.cell e_3 (by simp only; omega)
    replace e_4 := he16.cell e_4 (by simp only; omega)
    replace e_5 := he16.cell e_5 (by simp only; omega)
    replace e_6 := he16.cell e_6 (by simp only; omega)
    replace h_3 := he16.cell h_3 (by simp only; omega)
    replace res_l := Nat.lt_of_lt_of_le res_l hz16
    replace e_l := Nat.lt_of_lt_of_le e_l hz16
    clear he
    by_cases hq : q = 0
    · skip
      subst hq
      go_wp2_with fail
      refine (l01Below_any B g (2) (by omega) w16 hc).mono ?_
      rintro e w17 hpost
      obtain ⟨r, rfl, ⟨r_0, r_1, -⟩, hc, he⟩ := hpost.eff
      clear hpost
      replace r_1 := r_1 (by omega)
      have he17 : Eff (g) (g + 1) w16 w17 := he
      have hz17 : w16.heap.size ≤ w17.heap.size := he17.size
      have E17 : Eff g (g + 1) W w17 := E16.step he17 (by omega)
      have S17 := E17.size
      replace zr := zr.keep he17 (by omega)
      replace e_f0 := (he17.frozen e_0 (by simp only; omega)).trans e_f0
      replace e_f1 := (he17.frozen e_1 (by simp only; omega)).trans e_f1
      replace e_f2 := (he17.frozen e_2 (by simp only; omega)).trans e_f2
      replace e_f3 := (he17.frozen e_3 (by simp only; omega)).trans e_f3
      replace e_f4 := (he17.frozen e_4 (by simp only; omega)).trans e_f4
      replace e_f5 := (he17.frozen e_5 (by simp only; omega)).trans e_f5
      replace e_f6 := (he17.frozen e_6 (by simp only; omega)).trans e_f6
      replace e_0 := he17.cell e_0 (by simp only; omega)
      replace e_1 := he17.cell e_1 (by simp only; omega)
      replace e_2 := he17.cell e_2 (by simp only; omega)
      replace e_3 := he17.cell e_3 (by simp only; omega)
      replace e_4 := he17.cell e_4 (by simp only; omega)
      replace e_5 := he17.cell e_5 (by simp only; omega)
      replace e_6 := he17.cell e_6 (by simp only; omega)
      replace h_3 := he17.cell h_3 (by simp only; omega)
      replace res_l := Nat.lt_of_lt_of_le res_l hz17
      replace e_l := Nat.lt_of_lt_of_le e_l hz17
      clear he
      go_upto_region 17 with fail
      have he18 : Eff (w2.heap.size) (w2.heap.size + 1) w17 (w17.setCell ⟨w2.heap.size, 4, none⟩ (.int .i64 (1125899906842624 - r))) := eff_set _ _ _ _
      replace e_f0 := set_frozen (p := ⟨w2.heap.size, 4, none⟩) e_f0 (.int .i64 (1125899906842624 - r))
      replace e_f1 := set_frozen (p := ⟨w2.heap.size, 4, none⟩) e_f1 (.int .i64 (1125899906842624 - r))
      replace e_f2 := set_frozen (p := ⟨w2.heap.size, 4, none⟩) e_f2 (.int .i64 (1125899906842624 - r))
      replace e_f3 := set_frozen (p := ⟨w2.heap.size, 4, none⟩) e_f3 (.int .i64 (1125899906842624 - r))
      replace e_f4 := set_frozen (p := ⟨w2.heap.size, 4, none⟩) e_f4 (.int .i64 (1125899906842624 - r))
      replace e_f5 := set_frozen (p := ⟨w2.heap.size, 4, none⟩) e_f5 (.int .i64 (1125899906842624 - r))
      replace e_f6 := set_frozen (p := ⟨w2.heap.size, 4, none⟩) e_f6 (.int .i64 (1125899906842624 - r))
      replace e_0 := set_other (b' := w2.heap.size) (o' := 4) e_0 (.int .i64 (1125899906842624 - r)) (.inr (by omega))
      replace e_1 := set_other (b' := w2.heap.size) (o' := 4) e_1 (.int .i64 (1125899906842624 - r)) (.inr (by omega))
      replace e_2 := set_other (b' := w2.heap.size) (o' := 4) e_2 (.int .i64 (1125899906842624 - r)) (.inr (by omega))
      replace e_3 := set_other (b' := w2.heap.size) (o' := 4) e_3 (.int .i64 (1125899906842624 - r)) (.inr (by omega))
      replace e_4 := set_same e_4 (.int .i64 (1125899906842624 - r))
      replace e_5 := set_other (b' := w2.heap.size) (o' := 4) e_5 (.int .i64 (1125899906842624 - r)) (.inr (by omega))
      replace e_6 := set_other (b' := w2.heap.size) (o' := 4) e_6 (.int .i64 (1125899906842624 - r)) (.inr (by omega))
      replace h_3 := he18.cell h_3 (by simp only; omega)
      have hz18 : w17.heap.size ≤ (w17.setCell ⟨w2.heap.size, 4, none⟩ (.int .i64 (1125899906842624 - r))).heap.size := he18.size
      generalize (w17.setCell ⟨w2.heap.size, 4, none⟩ (.int .i64 (1125899906842624 - r))) = w18 at *
      have E18 : Eff g (g + 1) W w18 := E17.step he18 (by omega)
      have S18 := E18.size
      replace zr := zr.keep he18 (by omega)
      replace res_l := Nat.lt_of_lt_of_le res_l hz18
      replace e_l := Nat.lt_of_lt_of_le e_l hz18
      replace hc := hc.keep he18 (by omega) (by omega)
      obtain ⟨res_0, res_1, res_2, res_3, res_4, res_5, res_6, res_f0, res_f1, res_f2, res_f3, res_f4, res_f5, res_f6⟩ := zr
      go_wp2_with fail
      have r0 : (((((((w18.setCell ⟨W.heap.size, 0, none⟩ (.int .i64 (1 + x))).setCell ⟨W.heap.size, 1, none⟩ (.int .i64 (1 + a))).setCell ⟨W.heap.size, 2, none⟩ (.int .i64 (1 + b))).setCell ⟨W.heap.size, 3, none⟩ (.int .i64 to)).setCell ⟨W.heap.size, 4, none⟩ (.int .i64 (1125899906842624 - r))).setCell ⟨W.heap.size, 5, none⟩ (.int .i64 0)).setCell ⟨W.heap.size, 6, none⟩ (.bool (y == 0))).cell? ⟨W.heap.size, 0, none⟩ = some (.int .i64 (1 + x)) := set_other (set_other (set_other (set_other (set_other (set_other (set_same (res_0) _) _ (.inr (by omega))) _ (.inr (by omega))) _ (.inr (by omega))) _ (.inr (by omega))) _ (.inr (by omega))) _ (.inr (by omega))
      have r1 : (((((((w18.setCell ⟨W.heap.size, 0, none⟩ (.int .i64 (1 + x))).setCell ⟨W.heap.size, 1, none⟩ (.int .i64 (1 + a))).setCell ⟨W.heap.size, 2, none⟩ (.int .i64 (1 + b))).setCell ⟨W.heap.size, 3, none⟩ (.int .i64 to)).setCell ⟨W.heap.size, 4, none⟩ (.int .i64 (1125899906842624 - r))).setCell ⟨W.heap.size, 5, none⟩ (.int .i64 0)).setCell ⟨W.heap.size, 6, none⟩ (.bool (y == 0))).cell? ⟨W.heap.size, 1, none⟩ = some (.int .i64 (1 + a)) := set_other (set_other (set_other (set_other (set_other (set_same (set_other (res_1) _ (.inr (by omega))) _) _ (.inr (by omega))) _ (.inr (by omega))) _ (.inr (by omega))) _ (.inr (by omega))) _ (.inr (by omega))
      have r2 : (((((((w18.setCell ⟨W.heap.size, 0, none⟩ (.int .i64 (1 + x))).setCell ⟨W.heap.size, 1, none⟩ (.int .i64 (1 + a))).setCell ⟨W.heap.size, 2, none⟩ (.int .i64 (1 + b))).setCell ⟨W.heap.size, 3, none⟩ (.int .i64 to)).setCell ⟨W.heap.size, 4, none⟩ (.int .i64 (1125899906842624 - r))).setCell ⟨W.heap.size, 5, none⟩ (.int .i64 0)).setCell ⟨W.heap.size, 6, none⟩ (.bool (y == 0))).cell? ⟨W.heap.size, 2, none⟩ = some (.int .i64 (1 + b)) := set_other (set_other (set_other (set_other (set_same (set_other (set_other (res_2) _ (.inr (by omega))) _ (.inr (by omega))) _) _ (.inr (by omega))) _ (.inr (by omega))) _ (.inr (by omega))) _ (.inr (by omega))
      have r3 : (((((((w18.setCell ⟨W.heap.size, 0, none⟩ (.int .i64 (1 + x))).setCell ⟨W.heap.size, 1, none⟩ (.int .i64 (1 + a))).setCell ⟨W.heap.size, 2, none⟩ (.int .i64 (1 + b))).setCell ⟨W.heap.size, 3, none⟩ (.int .i64 to)).setCell ⟨W.heap.size, 4, none⟩ (.int .i64 (1125899906842624 - r))).setCell ⟨W.heap.size, 5, none⟩ (.int .i64 0)).setCell ⟨W.heap.size, 6, none⟩ (.bool (y == 0))).cell? ⟨W.heap.size, 3, none⟩ = some (.int .i64 to) := set_other (set_other (set_other (set_same (set_other (set_other (set_other (res_3) _ (.inr (by omega))) _ (.inr (by omega))) _ (.inr (by omega))) _) _ (.inr (by omega))) _ (.inr (by omega))) _ (.inr (by omega))
      have r4 : (((((((w18.setCell ⟨W.heap.size, 0, none⟩ (.int .i64 (1 + x))).setCell ⟨W.heap.size, 1, none⟩ (.int .i64 (1 + a))).setCell ⟨W.heap.size, 2, none⟩ (.int .i64 (1 + b))).setCell ⟨W.heap.size, 3, none⟩ (.int .i64 to)).setCell ⟨W.heap.size, 4, none⟩ (.int .i64 (1125899906842624 - r))).setCell ⟨W.heap.size, 5, none⟩ (.int .i64 0)).setCell ⟨W.heap.size, 6, none⟩ (.bool (y == 0))).cell? ⟨W.heap.size, 4, none⟩ = some (.int .i64 (1125899906842624 - r)) := set_other (set_other (set_same (set_other (set_other (set_other (set_other (res_4) _ (.inr (by omega))) _ (.inr (by omega))) _ (.inr (by omega))) _ (.inr (by omega))) _) _ (.inr (by omega))) _ (.inr (by omega))
      have r5 : (((((((w18.setCell ⟨W.heap.size, 0, none⟩ (.int .i64 (1 + x))).setCell ⟨W.heap.size, 1, none⟩ (.int .i64 (1 + a))).setCell ⟨W.heap.size, 2, none⟩ (.int .i64 (1 + b))).setCell ⟨W.heap.size, 3, none⟩ (.int .i64 to)).setCell ⟨W.heap.size, 4, none⟩ (.int .i64 (1125899906842624 - r))).setCell ⟨W.heap.size, 5, none⟩ (.int .i64 0)).setCell ⟨W.heap.size, 6, none⟩ (.bool (y == 0))).cell? ⟨W.heap.size, 5, none⟩ = some (.int .i64 0) := set_other (set_same (set_other (set_other (set_other (set_other (set_other (res_5) _ (.inr (by omega))) _ (.inr (by omega))) _ (.inr (by omega))) _ (.inr (by omega))) _ (.inr (by omega))) _) _ (.inr (by omega))
      have r6 : (((((((w18.setCell ⟨W.heap.size, 0, none⟩ (.int .i64 (1 + x))).setCell ⟨W.heap.size, 1, none⟩ (.int .i64 (1 + a))).setCell ⟨W.heap.size, 2, none⟩ (.int .i64 (1 + b))).setCell ⟨W.heap.size, 3, none⟩ (.int .i64 to)).setCell ⟨W.heap.size, 4, none⟩ (.int .i64 (1125899906842624 - r))).setCell ⟨W.heap.size, 5, none⟩ (.int .i64 0)).setCell ⟨W.heap.size, 6, none⟩ (.bool (y == 0))).cell? ⟨W.heap.size, 6, none⟩ = some (.bool (y == 0)) := set_same (set_other (set_other (set_other (set_other (set_other (set_other (res_6) _ (.inr (by omega))) _ (.inr (by omega))) _ (.inr (by omega))) _ (.inr (by omega))) _ (.inr (by omega))) _ (.inr (by omega))) _
      refine bodyPost_ret (v := .agg #[.int .i64 (1 + x), .int .i64 (1 + a), .int .i64 (1 + b), .int .i64 to, .int .i64 (1125899906842624 - r), .int .i64 0, .bool (y == 0)]) (by simp [results, Tryd.results63, go_sem, r0, r1, r2, r3, r4, r5, r6]) rfl ?_
      exact EvPost.mk E18 hc (eff_set7 _ _ _ _ _ _ _ _ _) (by omega) (by omega)
    · skip
      have hq0 : (q == 0) = false := by simp; omega
      obtain ⟨res_0, res_1, res_2, res_3, res_4, res_5, res_6, res_f0, res_f1, res_f2, res_f3, res_f4, res_f5, res_f6⟩ := zr
      go_wp2_with fail
      have r0 : (((((((w16.setCell ⟨W.heap.size, 0, none⟩ (.int .i64 (1 + x))).setCell ⟨W.heap.size, 1, none⟩ (.int .i64 (1 + a))).setCell ⟨W.heap.size, 2, none⟩ (.int .i64 (1 + b))).setCell ⟨W.heap.size, 3, none⟩ (.int .i64 to)).setCell ⟨W.heap.size, 4, none⟩ (.int .i64 (1 + m * 25))).setCell ⟨W.heap.size, 5, none⟩ (.int .i64 0)).setCell ⟨W.heap.size, 6, none⟩ (.bool (y == 0))).cell? ⟨W.heap.size, 0, none⟩ = some (.int .i64 (1 + x)) := set_other (set_other (set_other (set_other (set_other (set_other (set_same (res_0) _) _ (.inr (by omega))) _ (.inr (by omega))) _ (.inr (by omega))) _ (.inr (by omega))) _ (.inr (by omega))) _ (.inr (by omega))
      have r1 : (((((((w16.setCell ⟨W.heap.size, 0, none⟩ (.int .i64 (1 + x))).setCell ⟨W.heap.size, 1, none⟩ (.int .i64 (1 + a))).setCell ⟨W.heap.size, 2, none⟩ (.int .i64 (1 + b))).setCell ⟨W.heap.size, 3, none⟩ (.int .i64 to)).setCell ⟨W.heap.size, 4, none⟩ (.int .i64 (1 + m * 25))).setCell ⟨W.heap.size, 5, none⟩ (.int .i64 0)).setCell ⟨W.heap.size, 6, none⟩ (.bool (y == 0))).cell? ⟨W.heap.size, 1, none⟩ = some (.int .i64 (1 + a)) := set_other (set_other (set_other (set_other (set_other (set_same (set_other (res_1) _ (.inr (by omega))) _) _ (.inr (by omega))) _ (.inr (by omega))) _ (.inr (by omega))) _ (.inr (by omega))) _ (.inr (by omega))
      have r2 : (((((((w16.setCell ⟨W.heap.size, 0, none⟩ (.int .i64 (1 + x))).setCell ⟨W.heap.size, 1, none⟩ (.int .i64 (1 + a))).setCell ⟨W.heap.size, 2, none⟩ (.int .i64 (1 + b))).setCell ⟨W.heap.size, 3, none⟩ (.int .i64 to)).setCell ⟨W.heap.size, 4, none⟩ (.int .i64 (1 + m * 25))).setCell ⟨W.heap.size, 5, none⟩ (.int .i64 0)).setCell ⟨W.heap.size, 6, none⟩ (.bool (y == 0))).cell? ⟨W.heap.size, 2, none⟩ = some (.int .i64 (1 + b)) := set_other (set_other (set_other (set_other (set_same (set_other (set_other (res_2) _ (.inr (by omega))) _ (.inr (by omega))) _) _ (.inr (by omega))) _ (.inr (by omega))) _ (.inr (by omega))) _ (.inr (by omega))
      have r3 : (((((((w16.setCell ⟨W.heap.size, 0, none⟩ (.int .i64 (1 + x))).setCell ⟨W.heap.size, 1, none⟩ (.int .i64 (1 + a))).setCell ⟨W.heap.size, 2, none⟩ (.int .i64 (1 + b))).setCell ⟨W.heap.size, 3, none⟩ (.int .i64 to)).setCell ⟨W.heap.size, 4, none⟩ (.int .i64 (1 + m * 25))).setCell ⟨W.heap.size, 5, none⟩ (.int .i64 0)).setCell ⟨W.heap.size, 6, none⟩ (.bool (y == 0))).cell? ⟨W.heap.size, 3, none⟩ = some (.int .i64 to) := set_other (set_other (set_other (set_same (set_other (set_other (set_other (res_3) _ (.inr (by omega))) _ (.inr (by omega))) _ (.inr (by omega))) _) _ (.inr (by omega))) _ (.inr (by omega))) _ (.inr (by omega))
      have r4 : (((((((w16.setCell ⟨W.heap.size, 0, none⟩ (.int .i64 (1 + x))).setCell ⟨W.heap.size, 1, none⟩ (.int .i64 (1 + a))).setCell ⟨W.heap.size, 2, none⟩ (.int .i64 (1 + b))).setCell ⟨W.heap.size, 3, none⟩ (.int .i64 to)).setCell ⟨W.heap.size, 4, none⟩ (.int .i64 (1 + m * 25))).setCell ⟨W.heap.size, 5, none⟩ (.int .i64 0)).setCell ⟨W.heap.size, 6, none⟩ (.bool (y == 0))).cell? ⟨W.heap.size, 4, none⟩ = some (.int .i64 (1 + m * 25)) := set_other (set_other (set_same (set_other (set_other (set_other (set_other (res_4) _ (.inr (by omega))) _ (.inr (by omega))) _ (.inr (by omega))) _ (.inr (by omega))) _) _ (.inr (by omega))) _ (.inr (by omega))
      have r5 : (((((((w16.setCell ⟨W.heap.size, 0, none⟩ (.int .i64 (1 + x))).setCell ⟨W.heap.size, 1, none⟩ (.int .i64 (1 + a))).setCell ⟨W.heap.size, 2, none⟩ (.int .i64 (1 + b))).setCell ⟨W.heap.size, 3, none⟩ (.int .i64 to)).setCell ⟨W.heap.size, 4, none⟩ (.int .i64 (1 + m * 25))).setCell ⟨W.heap.size, 5, none⟩ (.int .i64 0)).setCell ⟨W.heap.size, 6, none⟩ (.bool (y == 0))).cell? ⟨W.heap.size, 5, none⟩ = some (.int .i64 0) := set_other (set_same (set_other (set_other (set_other (set_other (set_other (res_5) _ (.inr (by omega))) _ (.inr (by omega))) _ (.inr (by omega))) _ (.inr (by omega))) _ (.inr (by omega))) _) _ (.inr (by omega))
      have r6 : (((((((w16.setCell ⟨W.heap.size, 0, none⟩ (.int .i64 (1 + x))).setCell ⟨W.heap.size, 1, none⟩ (.int .i64 (1 + a))).setCell ⟨W.heap.size, 2, none⟩ (.int .i64 (1 + b))).setCell ⟨W.heap.size, 3, none⟩ (.int .i64 to)).setCell ⟨W.heap.size, 4, none⟩ (.int .i64 (1 + m * 25))).setCell ⟨W.heap.size, 5, none⟩ (.int .i64 0)).setCell ⟨W.heap.size, 6, none⟩ (.bool (y == 0))).cell? ⟨W.heap.size, 6, none⟩ = some (.bool (y == 0)) := set_same (set_other (set_other (set_other (set_other (set_other (set_other (res_6) _ (.inr (by omega))) _ (.inr (by omega))) _ (.inr (by omega))) _ (.inr (by omega))) _ (.inr (by omega))) _ (.inr (by omega))) _
      refine bodyPost_ret (v := .agg #[.int .i64 (1 + x), .int .i64 (1 + a), .int .i64 (1 + b), .int .i64 to, .int .i64 (1 + m * 25), .int .i64 0, .bool (y == 0)]) (by simp [results, Tryd.results63, go_sem, r0, r1, r2, r3, r4, r5, r6]) rfl ?_
      exact EvPost.mk E16 hc (eff_set7 _ _ _ _ _ _ _ _ _) (by omega) (by omega)
  · skip
    have HP := Lib.hid hp
    clear hp
    go_wp2_with fail
    have he3 : Eff 0 0 w2 (w2.alloc (.cells #[.int .i64 (1 + x), .int .i64 0, .int .i64 0, .int .i64 0, .int .i64 0, .int .i64 0, .bool false] 32)) := Eff.alloc _ _
    have hs3 : (w2.alloc (.cells #[.int .i64 (1 + x), .int .i64 0, .int .i64 0, .int .i64 0, .int .i64 0, .int .i64 0, .bool false] 32)).heap.size = w2.heap.size + 1 := (by simp)
    have e_0 : (w2.alloc (.cells #[.int .i64 (1 + x), .int .i64 0, .int .i64 0, .int .i64 0, .int .i64 0, .int .i64 0, .bool false] 32)).cell? ⟨w2.heap.size, 0, none⟩ = some (.int .i64 (1 + x)) := var_cell _ _ _ _ _ rfl
    have e_1 : (w2.alloc (.cells #[.int .i64 (1 + x), .int .i64 0, .int .i64 0, .int .i64 0, .int .i64 0, .int .i64 0, .bool false] 32)).cell? ⟨w2.heap.size, 1, none⟩ = some (.int .i64 0) := var_cell _ _ _ _ _ rfl
    have e_2 : (w2.alloc (.cells #[.int .i64 (1 + x), .int .i64 0, .int .i64 0, .int .i64 0, .int .i64 0, .int .i64 0, .bool false] 32)).cell? ⟨w2.heap.size, 2, none⟩ = some (.int .i64 0) := var_cell _ _ _ _ _ rfl
    have e_3 : (w2.alloc (.cells #[.int .i64 (1 + x), .int .i64 0, .int .i64 0, .int .i64 0, .int .i64 0, .int .i64 0, .bool false] 32)).cell? ⟨w2.heap.size, 3, none⟩ = some (.int .i64 0) := var_cell _ _ _ _ _ rfl
    have e_4 : (w2.alloc (.cells #[.int .i64 (1 + x), .int .i64 0, .int .i64 0, .int .i64 0, .int .i64 0, .int .i64 0, .bool false] 32)).cell? ⟨w2.heap.size, 4, none⟩ = some (.int .i64 0) := var_cell _ _ _ _ _ rfl
    have e_5 : (w2.alloc (.cells #[.int .i64 (1 + x), .int .i64 0, .int .i64 0, .int .i64 0, .int .i64 0, .int .i64 0, .bool false] 32)).cell? ⟨w2.heap.size, 5, none⟩ = some (.int .i64 0) := var_cell _ _ _ _ _ rfl
    have e_6 : (w2.alloc (.cells #[.int .i64 (1 + x), .int .i64 0, .int .i64 0, .int .i64 0, .int .i64 0, .int .i64 0, .bool false] 32)).cell? ⟨w2.heap.size, 6, none⟩ = some (.bool false) := var_cell _ _ _ _ _ rfl
    have e_f0 : (w2.alloc (.cells #[.int .i64 (1 + x), .int .i64 0, .int .i64 0, .int .i64 0, .int .i64 0, .int .i64 0, .bool false] 32)).frozen? ⟨w2.heap.size, 0, none⟩ = false := var_frozen _ _ _ _
    have e_f1 : (w2.alloc (.cells #[.int .i64 (1 + x), .int .i64 0, .int .i64 0, .int .i64 0, .int .i64 0, .int .i64 0, .bool false] 32)).frozen? ⟨w2.heap.size, 1, none⟩ = false := var_frozen _ _ _ _
    have e_f2 : (w2.alloc (.cells #[.int .i64 (1 + x), .int .i64 0, .int .i64 0, .int .i64 0, .int .i64 0, .int .i64 0, .bool false] 32)).frozen? ⟨w2.heap.size, 2, none⟩ = false := var_frozen _ _ _ _
    have e_f3 : (w2.alloc (.cells #[.int .i64 (1 + x), .int .i64 0, .int .i64 0, .int .i64 0, .int .i64 0, .int .i64 0, .bool false] 32)).frozen? ⟨w2.heap.size, 3, none⟩ = false := var_frozen _ _ _ _
    have e_f4 : (w2.alloc (.cells #[.int .i64 (1 + x), .int .i64 0, .int .i64 0, .int .i64 0, .int .i64 0, .int .i64 0, .bool false] 32)).frozen? ⟨w2.heap.size, 4, none⟩ = false := var_frozen _ _ _ _
    have e_f5 : (w2.alloc (.cells #[.int .i64 (1 + x), .int .i64 0, .int .i64 0, .int .i64 0, .int .i64 0, .int .i64 0, .bool false] 32)).frozen? ⟨w2.heap.size, 5, none⟩ = false := var_frozen _ _ _ _
    have e_f6 : (w2.alloc (.cells #[.int .i64 (1 + x), .int .i64 0, .int .i64 0, .int .i64 0, .int .i64 0, .int .i64 0, .bool false] 32)).frozen? ⟨w2.heap.size, 6, none⟩ = false := var_frozen _ _ _ _
    generalize (w2.alloc (.cells #[.int .i64 (1 + x), .int .i64 0, .int .i64 0, .int .i64 0, .int .i64 0, .int .i64 0, .bool false] 32)) = w3 at *
    have hz3 : w2.heap.size ≤ w3.heap.size := he3.size
    have E3 : Eff g (g + 1) W w3 := E2.step he3 (by omega)
    have S3 := E3.size
    replace zr := zr.keep he3 (by omega)
    replace res_l := Nat.lt_of_lt_of_le res_l hz3
    replace hc := hc.keep he3 (by omega) (by omega)
    have e_l : w2.heap.size < w3.heap.size := (by omega)
    have hVH : w2.heap.size < w3.heap.size := by omega
    clear hs3
    refine (l04HasC (1 + x) q0 q1 w3.heap.size w3 rfl).mono ?_
    rintro e w4 ⟨rfl, h_0, h_1, h_2, h_3, h_4, h_5, he⟩
    rw [HP.out] at h_0 h_1 h_2 h_3 h_4 h_5
    have he4 : Eff (0) (0) w3 w4 := he
    have hz4 : w3.heap.size ≤ w4.heap.size := he4.size
    have E4 : Eff g (g + 1) W w4 := E3.step he4 (by omega)
    have S4 := E4.size
    replace zr := zr.keep he4 (by omega)
    replace e_f0 := (he4.frozen e_0 (by simp only; omega)).trans e_f0
    replace e_f1 := (he4.frozen e_1 (by simp only; omega)).trans e_f1
    replace e_f2 := (he4.frozen e_2 (by simp only; omega)).trans e_f2
    replace e_f3 := (he4.frozen e_3 (by simp only; omega)).trans e_f3
    replace e_f4 := (he4.frozen e_4 (by simp only; omega)).trans e_f4
    replace e_f5 := (he4.frozen e_5 (by simp only; omega)).trans e_f5
    replace e_f6 := (he4.frozen e_6 (by simp only; omega)).trans e_f6
    replace e_0 := he4.cell e_0 (by simp only; omega)
    replace e_1 := he4.cell e_1 (by simp only; omega)
    replace e_2 := he4.cell e_2 (by simp only; omega)
    replace e_3 := he4.cell e_3 (by simp only; omega)
    replace e_4 := he4.cell e_4 (by simp only; omega)
    replace e_5 := he4.cell e_5 (by simp only; omega)
    replace e_6 := he4.cell e_6 (by simp only; omega)
    replace res_l := Nat.lt_of_lt_of_le res_l hz4
    replace e_l := Nat.lt_of_lt_of_le e_l hz4
    replace hc := hc.keep he4 (by omega) (by omega)
    clear he
    have h_l : w3.heap.size < w4.heap.size := World.block_lt_of_cell? _ _ h_0
    go_wp2_with fail
    refine (l01Below_any B g (6) (by omega) w4 hc).mono ?_
    rintro e w5 hpost
    obtain ⟨a, rfl, ⟨a_0, a_1, -⟩, hc, he⟩ := hpost.eff
    clear hpost
    replace a_1 := a_1 (by omega)
    have he5 : Eff (g) (g + 1) w4 w5 := he
    have hz5 : w4.heap.size ≤ w5.heap.size := he5.size
    have E5 : Eff g (g + 1) W w5 := E4.step he5 (by omega)
    have S5 := E5.size
    replace zr := zr.keep he5 (by omega)
    replace e_f0 := (he5.frozen e_0 (by simp only; omega)).trans e_f0
    replace e_f1 := (he5.frozen e_1 (by simp only; omega)).trans e_f1
    replace e_f2 := (he5.frozen e_2 (by simp only; omega)).trans e_f2
    replace e_f3 := (he5.frozen e_3 (by simp only; omega)).trans e_f3
    replace e_f4 := (he5.frozen e_4 (by simp only; omega)).trans e_f4
    replace e_f5 := (he5.frozen e_5 (by simp only; omega)).trans e_f5
    replace e_f6 := (he5.frozen e_6 (by simp only; omega)).trans e_f6
    replace e_0 := he5.cell e_0 (by simp only; omega)
    replace e_1 := he5.cell e_1 (by simp only; omega)
    replace e_2 := he5.cell e_2 (by simp only; omega)
    replace e_3 := he5.cell e_3 (by simp only; omega)
    replace e_4 := he5.cell e_4 (by simp only; omega)
    replace e_5 := he5.cell e_5 (by simp only; omega)
    replace e_6 := he5.cell e_6 (by simp only; omega)
    replace h_0 := he5.cell h_0 (by simp only; omega)
    replace h_1 := he5.cell h_1 (by simp only; omega)
    replace h_2 := he5.cell h_2 (by simp only; omega)
    replace h_3 := he5.cell h_3 (by simp only; omega)
    replace h_4 := he5.cell h_4 (by simp only; omega)
    replace h_5 := he5.cell h_5 (by simp only; omega)
    replace res_l := Nat.lt_of_lt_of_le res_l hz5
    replace e_l := Nat.lt_of_lt_of_le e_l hz5
    clear he
    go_upto_region 6 with fail
    clear h_0
    have he6 : Eff (w2.heap.size) (w2.heap.size + 1) w5 (w5.setCell ⟨w2.heap.size, 1, none⟩ (.int .i64 (1 + a))) := eff_set _ _ _ _
    replace e_f0 := set_frozen (p := ⟨w2.heap.size, 1, none⟩) e_f0 (.int .i64 (1 + a))
    replace e_f1 := set_frozen (p := ⟨w2.heap.size, 1, none⟩) e_f1 (.int .i64 (1 + a))
    replace e_f2 := set_frozen (p := ⟨w2.heap.size, 1, none⟩) e_f2 (.int .i64 (1 + a))
    replace e_f3 := set_frozen (p := ⟨w2.heap.size, 1, none⟩) e_f3 (.int .i64 (1 + a))
    replace e_f4 := set_frozen (p := ⟨w2.heap.size, 1, none⟩) e_f4 (.int .i64 (1 + a))
    replace e_f5 := set_frozen (p := ⟨w2.heap.size, 1, none⟩) e_f5 (.int .i64 (1 + a))
    replace e_f6 := set_frozen (p := ⟨w2.heap.size, 1, none⟩) e_f6 (.int .i64 (1 + a))
    replace e_0 := set_other (b' := w2.heap.size) (o' := 1) e_0 (.int .i64 (1 + a)) (.inr (by omega))
    replace e_1 := set_same e_1 (.int .i64 (1 + a))
    replace e_2 := set_other (b' := w2.heap.size) (o' := 1) e_2 (.int .i64 (1 + a)) (.inr (by omega))
    replace e_3 := set_other (b' := w2.heap.size) (o' := 1) e_3 (.int .i64 (1 + a)) (.inr (by omega))
    replace e_4 := set_other (b' := w2.heap.size) (o' := 1) e_4 (.int .i64 (1 + a)) (.inr (by omega))
    replace e_5 := set_other (b' := w2.heap.size) (o' := 1) e_5 (.int .i64 (1 + a)) (.inr (by omega))
    replace e_6 := set_other (b' := w2.heap.size) (o' := 1) e_6 (.int .i64 (1 + a)) (.inr (by omega))
    replace h_1 := he6.cell h_1 (by simp only; omega)
    replace h_2 := he6.cell h_2 (by simp only; omega)
    replace h_3 := he6.cell h_3 (by simp only; omega)
    replace h_4 := he6.cell h_4 (by simp only; omega)
    replace h_5 := he6.cell h_5 (by simp only; omega)
    have hz6 : w5.heap.size ≤ (w5.setCell ⟨w2.heap.size, 1, none⟩ (.int .i64 (1 + a))).heap.size := he6.size
    generalize (w5.setCell ⟨w2.heap.size, 1, none⟩ (.int .i64 (1 + a))) = w6 at *
    have E6 : Eff g (g + 1) W w6 := E5.step he6 (by omega)
    have S6 := E6.size
    replace zr := zr.keep he6 (by omega)
    replace res_l := Nat.lt_of_lt_of_le res_l hz6
    replace e_l := Nat.lt_of_lt_of_le e_l hz6
    replace hc := hc.keep he6 (by omega) (by omega)
    go_wp2_with fail
    refine (l01Below_any B g (4) (by omega) w6 hc).mono ?_
    rintro e w7 hpost
    obtain ⟨b, rfl, ⟨b_0, b_1, -⟩, hc, he⟩ := hpost.eff
    clear hpost
    replace b_1 := b_1 (by omega)
    have he7 : Eff (g) (g + 1) w6 w7 := he
    have hz7 : w6.heap.size ≤ w7.heap.size := he7.size
    have E7 : Eff g (g + 1) W w7 := E6.step he7 (by omega)
    have S7 := E7.size
    replace zr := zr.keep he7 (by omega)
    replace e_f0 := (he7.frozen e_0 (by simp only; omega)).trans e_f0
    replace e_f1 := (he7.frozen e_1 (by simp only; omega)).trans e_f1
    replace e_f2 := (he7.frozen e_2 (by simp only; omega)).trans e_f2
    replace e_f3 := (he7.frozen e_3 (by simp only; omega)).trans e_f3
    replace e_f4 := (he7.frozen e_4 (by simp only; omega)).trans e_f4
    replace e_f5 := (he7.frozen e_5 (by simp only; omega)).trans e_f5
    replace e_f6 := (he7.frozen e_6 (by simp only; omega)).trans e_f6
    replace e_0 := he7.cell e_0 (by simp only; omega)
    replace e_1 := he7.cell e_1 (by simp only; omega)
    replace e_2 := he7.cell e_2 (by simp only; omega)
    replace e_3 := he7.cell e_3 (by simp only; omega)
    replace e_4 := he7.cell e_4 (by simp only; omega)
    replace e_5 := he7.cell e_5 (by simp only; omega)
    replace e_6 := he7.cell e_6 (by simp only; omega)
    replace h_1 := he7.cell h_1 (by simp only; omega)
    replace h_2 := he7.cell h_2 (by simp only; omega)
    replace h_3 := he7.cell h_3 (by simp only; omega)
    replace h_4 := he7.cell h_4 (by simp only; omega)
    replace h_5 := he7.cell h_5 (by simp only; omega)
    replace res_l := Nat.lt_of_lt_of_le res_l hz7
    replace e_l := Nat.lt_of_lt_of_le e_l hz7
    clear he
    go_upto_region 8 with fail
    clear h_1
    have he8 : Eff (w2.heap.size) (w2.heap.size + 1) w7 (w7.setCell ⟨w2.heap.size, 2, none⟩ (.int .i64 (1 + b))) := eff_set _ _ _ _
    replace e_f0 := set_frozen (p := ⟨w2.heap.size, 2, none⟩) e_f0 (.int .i64 (1 + b))
    replace e_f1 := set_frozen (p := ⟨w2.heap.size, 2, none⟩) e_f1 (.int .i64 (1 + b))
    replace e_f2 := set_frozen (p := ⟨w2.heap.size, 2, none⟩) e_f2 (.int .i64 (1 + b))
    replace e_f3 := set_frozen (p := ⟨w2.heap.size, 2, none⟩) e_f3 (.int .i64 (1 + b))
    replace e_f4 := set_frozen (p := ⟨w2.heap.size, 2, none⟩) e_f4 (.int .i64 (1 + b))
    replace e_f5 := set_frozen (p := ⟨w2.heap.size, 2, none⟩) e_f5 (.int .i64 (1 + b))
    replace e_f6 := set_frozen (p := ⟨w2.heap.size, 2, none⟩) e_f6 (.int .i64 (1 + b))
    replace e_0 := set_other (b' := w2.heap.size) (o' := 2) e_0 (.int .i64 (1 + b)) (.inr (by omega))
    replace e_1 := set_other (b' := w2.heap.size) (o' := 2) e_1 (.int .i64 (1 + b)) (.inr (by omega))
    replace e_2 := set_same e_2 (.int .i64 (1 + b))
    replace e_3 := set_other (b' := w2.heap.size) (o' := 2) e_3 (.int .i64 (1 + b)) (.inr (by omega))
    replace e_4 := set_other (b' := w2.heap.size) (o' := 2) e_4 (.int .i64 (1 + b)) (.inr (by omega))
    replace e_5 := set_other (b' := w2.heap.size) (o' := 2) e_5 (.int .i64 (1 + b)) (.inr (by omega))
    replace e_6 := set_other (b' := w2.heap.size) (o' := 2) e_6 (.int .i64 (1 + b)) (.inr (by omega))
    replace h_2 := he8.cell h_2 (by simp only; omega)
    replace h_3 := he8.cell h_3 (by simp only; omega)
    replace h_4 := he8.cell h_4 (by simp only; omega)
    replace h_5 := he8.cell h_5 (by simp only; omega)
    have hz8 : w7.heap.size ≤ (w7.setCell ⟨w2.heap.size, 2, none⟩ (.int .i64 (1 + b))).heap.size := he8.size
    generalize (w7.setCell ⟨w2.heap.size, 2, none⟩ (.int .i64 (1 + b))) = w8 at *
    have E8 : Eff g (g + 1) W w8 := E7.step he8 (by omega)
    have S8 := E8.size
    replace zr := zr.keep he8 (by omega)
    replace res_l := Nat.lt_of_lt_of_le res_l hz8
    replace e_l := Nat.lt_of_lt_of_le e_l hz8
    replace hc := hc.keep he8 (by omega) (by omega)
    have wx1 : IntKind.i64.wrap (1 + b) = 1 + b := IntWalk.i64_in _ (by omega)
    go_wp2_with fail
    have he9 : Eff 0 0 w8 w8.drew := (Eff.refl _ _ _).drew
    have hz9 : w8.heap.size ≤ w8.drew.heap.size := he9.size
    have E9 : Eff g (g + 1) W w8.drew := E8.step he9 (by omega)
    have S9 := E9.size
    replace zr := zr.keep he9 (by omega)
    replace e_f0 := (he9.frozen e_0 (by simp only; omega)).trans e_f0
    replace e_f1 := (he9.frozen e_1 (by simp only; omega)).trans e_f1
    replace e_f2 := (he9.frozen e_2 (by simp only; omega)).trans e_f2
    replace e_f3 := (he9.frozen e_3 (by simp only; omega)).trans e_f3
    replace e_f4 := (he9.frozen e_4 (by simp only; omega)).trans e_f4
    replace e_f5 := (he9.frozen e_5 (by simp only; omega)).trans e_f5
    replace e_f6 := (he9.frozen e_6 (by simp only; omega)).trans e_f6
    replace e_0 := he9.cell e_0 (by simp only; omega)
    replace e_1 := he9.cell e_1 (by simp only; omega)
    replace e_2 := he9.cell e_2 (by simp only; omega)
    replace e_3 := he9.cell e_3 (by simp only; omega)
    replace e_4 := he9.cell e_4 (by simp only; omega)
    replace e_5 := he9.cell e_5 (by simp only; omega)
    replace e_6 := he9.cell e_6 (by simp only; omega)
    replace h_2 := he9.cell h_2 (by simp only; omega)
    replace h_3 := he9.cell h_3 (by simp only; omega)
    replace h_4 := he9.cell h_4 (by simp only; omega)
    replace h_5 := he9.cell h_5 (by simp only; omega)
    replace res_l := Nat.lt_of_lt_of_le res_l hz9
    replace e_l := Nat.lt_of_lt_of_le e_l hz9
    replace hc := hc.keep he9 (by omega) (by omega)
    go_region_held3 (fun w' => w'.cell? ⟨w2.heap.size, 2, none⟩ = some (.int .i64 (1 + b))) ((go_split_ands; (repeat' apply And.intro) <;> (first | assumption | (exact set_other (by assumption) _ (.inr (by omega)))))) (first | (go_at_call 57; refine (l01Below_any B g 3 (by omega) w8.drew hc).mono ?_; rintro e w10 hpost; obtain ⟨t, rfl, ⟨t_0, t_1, -⟩, hc, he⟩ := hpost.eff; clear hpost; replace t_1 := t_1 (by omega); have he10 : Eff (g) (g + 1) w8.drew w10 := he; have hz10 : w8.drew.heap.size ≤ w10.heap.size := he10.size; have E10 : Eff g (g + 1) W w10 := E9.step he10 (by omega); have S10 := E10.size; replace zr := zr.keep he10 (by omega); replace e_f0 := (he10.frozen e_0 (by simp only; omega)).trans e_f0; replace e_f1 := (he10.frozen e_1 (by simp only; omega)).trans e_f1; replace e_f2 := (he10.frozen e_2 (by simp only; omega)).trans e_f2; replace e_f3 := (he10.frozen e_3 (by simp only; omega)).trans e_f3; replace e_f4 := (he10.frozen e_4 (by simp only; omega)).trans e_f4; replace e_f5 := (he10.frozen e_5 (by simp only; omega)).trans e_f5; replace e_f6 := (he10.frozen e_6 (by simp only; omega)).trans e_f6; replace e_0 := he10.cell e_0 (by simp only; omega); replace e_1 := he10.cell e_1 (by simp only; omega); replace e_2 := he10.cell e_2 (by simp only; omega); replace e_3 := he10.cell e_3 (by simp only; omega); replace e_4 := he10.cell e_4 (by simp only; omega); replace e_5 := he10.cell e_5 (by simp only; omega); replace e_6 := he10.cell e_6 (by simp only; omega); replace h_2 := he10.cell h_2 (by simp only; omega); replace h_3 := he10.cell h_3 (by simp only; omega); replace h_4 := he10.cell h_4 (by simp only; omega); replace h_5 := he10.cell h_5 (by simp only; omega); replace res_l := Nat.lt_of_lt_of_le res_l hz10; replace e_l := Nat.lt_of_lt_of_le e_l hz10; clear he))
    have wx2 : IntKind.i64.wrap (1 + b + t) = 1 + b + t := IntWalk.i64_in _ (by omega)
    go_upto_region 10 with fail
    clear h_2
    obtain ⟨to, hto⟩ : ∃ x, IntKind.i64.wrap (1 + (IntKind.i64.wrap (1 + b + t)).tmod 4) = x := ⟨_, rfl⟩
    rw [hto]
    clear hto wx1 wx2
    have he11 : Eff (w2.heap.size) (w2.heap.size + 1) w10 (w10.setCell ⟨w2.heap.size, 3, none⟩ (.int .i64 to)) := eff_set _ _ _ _
    replace e_f0 := set_frozen (p := ⟨w2.heap.size, 3, none⟩) e_f0 (.int .i64 to)
    replace e_f1 := set_frozen (p := ⟨w2.heap.size, 3, none⟩) e_f1 (.int .i64 to)
    replace e_f2 := set_frozen (p := ⟨w2.heap.size, 3, none⟩) e_f2 (.int .i64 to)
    replace e_f3 := set_frozen (p := ⟨w2.heap.size, 3, none⟩) e_f3 (.int .i64 to)
    replace e_f4 := set_frozen (p := ⟨w2.heap.size, 3, none⟩) e_f4 (.int .i64 to)
    replace e_f5 := set_frozen (p := ⟨w2.heap.size, 3, none⟩) e_f5 (.int .i64 to)
    replace e_f6 := set_frozen (p := ⟨w2.heap.size, 3, none⟩) e_f6 (.int .i64 to)
    replace e_0 := set_other (b' := w2.heap.size) (o' := 3) e_0 (.int .i64 to) (.inr (by omega))
    replace e_1 := set_other (b' := w2.heap.size) (o' := 3) e_1 (.int .i64 to) (.inr (by omega))
    replace e_2 := set_other (b' := w2.heap.size) (o' := 3) e_2 (.int .i64 to) (.inr (by omega))
    replace e_3 := set_same e_3 (.int .i64 to)
    replace e_4 := set_other (b' := w2.heap.size) (o' := 3) e_4 (.int .i64 to) (.inr (by omega))
    replace e_5 := set_other (b' := w2.heap.size) (o' := 3) e_5 (.int .i64 to) (.inr (by omega))
    replace e_6 := set_other (b' := w2.heap.size) (o' := 3) e_6 (.int .i64 to) (.inr (by omega))
    replace h_3 := he11.cell h_3 (by simp only; omega)
    replace h_4 := he11.cell h_4 (by simp only; omega)
    replace h_5 := he11.cell h_5 (by simp only; omega)
    have hz11 : w10.heap.size ≤ (w10.setCell ⟨w2.heap.size, 3, none⟩ (.int .i64 to)).heap.size := he11.size
    generalize (w10.setCell ⟨w2.heap.size, 3, none⟩ (.int .i64 to)) = w11 at *
    have E11 : Eff g (g + 1) W w11 := E10.step he11 (by omega)
    have S11 := E11.size
    replace zr := zr.keep he11 (by omega)
    replace res_l := Nat.lt_of_lt_of_le res_l hz11
    replace e_l := Nat.lt_of_lt_of_le e_l hz11
    replace hc := hc.keep he11 (by omega) (by omega)
    go_wp2_with fail
    refine (l01Below_any B g (400) (by omega) w11 hc).mono ?_
    rintro e w12 hpost
    obtain ⟨m, rfl, ⟨m_0, m_1, -⟩, hc, he⟩ := hpost.eff
    clear hpost
    replace m_1 := m_1 (by omega)
    have he12 : Eff (g) (g + 1) w11 w12 := he
    have hz12 : w11.heap.size ≤ w12.heap.size := he12.size
    have E12 : Eff g (g + 1) W w12 := E11.step he12 (by omega)
    have S12 := E12.size
    replace zr := zr.keep he12 (by omega)
    replace e_f0 := (he12.frozen e_0 (by simp only; omega)).trans e_f0
    replace e_f1 := (he12.frozen e_1 (by simp only; omega)).trans e_f1
    replace e_f2 := (he12.frozen e_2 (by simp only; omega)).trans e_f2
    replace e_f3 := (he12.frozen e_3 (by simp only; omega)).trans e_f3
    replace e_f4 := (he12.frozen e_4 (by simp only; omega)).trans e_f4
    replace e_f5 := (he12.frozen e_5 (by simp only; omega)).trans e_f5
    replace e_f6 := (he12.frozen e_6 (by simp only; omega)).trans e_f6
    replace e_0 := he12.cell e_0 (by simp only; omega)
    replace e_1 := he12.cell e_1 (by simp only; omega)
    replace e_2 := he12.cell e_2 (by simp only; omega)
    replace e_3 := he12.cell e_3 (by simp only; omega)
    replace e_4 := he12.cell e_4 (by simp only; omega)
    replace e_5 := he12.cell e_5 (by simp only; omega)
    replace e_6 := he12.cell e_6 (by simp only; omega)
    replace h_3 := he12.cell h_3 (by simp only; omega)
    replace h_4 := he12.cell h_4 (by simp only; omega)
    replace h_5 := he12.cell h_5 (by simp only; omega)
    replace res_l := Nat.lt_of_lt_of_le res_l hz12
    replace e_l := Nat.lt_of_lt_of_le e_l hz12
    clear he
    go_upto_region 12 with fail
    have he13 : Eff (w2.heap.size) (w2.heap.size + 1) w12 (w12.setCell ⟨w2.heap.size, 4, none⟩ (.int .i64 (1 + m * 25))) := eff_set _ _ _ _
    replace e_f0 := set_frozen (p := ⟨w2.heap.size, 4, none⟩) e_f0 (.int .i64 (1 + m * 25))
    replace e_f1 := set_frozen (p := ⟨w2.heap.size, 4, none⟩) e_f1 (.int .i64 (1 + m * 25))
    replace e_f2 := set_frozen (p := ⟨w2.heap.size, 4, none⟩) e_f2 (.int .i64 (1 + m * 25))
    replace e_f3 := set_frozen (p := ⟨w2.heap.size, 4, none⟩) e_f3 (.int .i64 (1 + m * 25))
    replace e_f4 := set_frozen (p := ⟨w2.heap.size, 4, none⟩) e_f4 (.int .i64 (1 + m * 25))
    replace e_f5 := set_frozen (p := ⟨w2.heap.size, 4, none⟩) e_f5 (.int .i64 (1 + m * 25))
    replace e_f6 := set_frozen (p := ⟨w2.heap.size, 4, none⟩) e_f6 (.int .i64 (1 + m * 25))
    replace e_0 := set_other (b' := w2.heap.size) (o' := 4) e_0 (.int .i64 (1 + m * 25)) (.inr (by omega))
    replace e_1 := set_other (b' := w2.heap.size) (o' := 4) e_1 (.int .i64 (1 + m * 25)) (.inr (by omega))
    replace e_2 := set_other (b' := w2.heap.size) (o' := 4) e_2 (.int .i64 (1 + m * 25)) (.inr (by omega))
    replace e_3 := set_other (b' := w2.heap.size) (o' := 4) e_3 (.int .i64 (1 + m * 25)) (.inr (by omega))
    replace e_4 := set_same e_4 (.int .i64 (1 + m * 25))
    replace e_5 := set_other (b' := w2.heap.size) (o' := 4) e_5 (.int .i64 (1 + m * 25)) (.inr (by omega))
    replace e_6 := set_other (b' := w2.heap.size) (o' := 4) e_6 (.int .i64 (1 + m * 25)) (.inr (by omega))
    replace h_3 := he13.cell h_3 (by simp only; omega)
    replace h_4 := he13.cell h_4 (by simp only; omega)
    replace h_5 := he13.cell h_5 (by simp only; omega)
    have hz13 : w12.heap.size ≤ (w12.setCell ⟨w2.heap.size, 4, none⟩ (.int .i64 (1 + m * 25))).heap.size := he13.size
    generalize (w12.setCell ⟨w2.heap.size, 4, none⟩ (.int .i64 (1 + m * 25))) = w13 at *
    have E13 : Eff g (g + 1) W w13 := E12.step he13 (by omega)
    have S13 := E13.size
    replace zr := zr.keep he13 (by omega)
    replace res_l := Nat.lt_of_lt_of_le res_l hz13
    replace e_l := Nat.lt_of_lt_of_le e_l hz13
    replace hc := hc.keep he13 (by omega) (by omega)
    go_wp2_with fail
    refine (l01Below_any B g (300) (by omega) w13 hc).mono ?_
    rintro e w14 hpost
    obtain ⟨n, rfl, ⟨n_0, n_1, -⟩, hc, he⟩ := hpost.eff
    clear hpost
    replace n_1 := n_1 (by omega)
    have he14 : Eff (g) (g + 1) w13 w14 := he
    have hz14 : w13.heap.size ≤ w14.heap.size := he14.size
    have E14 : Eff g (g + 1) W w14 := E13.step he14 (by omega)
    have S14 := E14.size
    replace zr := zr.keep he14 (by omega)
    replace e_f0 := (he14.frozen e_0 (by simp only; omega)).trans e_f0
    replace e_f1 := (he14.frozen e_1 (by simp only; omega)).trans e_f1
    replace e_f2 := (he14.frozen e_2 (by simp only; omega)).trans e_f2
    replace e_f3 := (he14.frozen e_3 (by simp only; omega)).trans e_f3
    replace e_f4 := (he14.frozen e_4 (by simp only; omega)).trans e_f4
    replace e_f5 := (he14.frozen e_5 (by simp only; omega)).trans e_f5
    replace e_f6 := (he14.frozen e_6 (by simp only; omega)).trans e_f6
    replace e_0 := he14.cell e_0 (by simp only; omega)
    replace e_1 := he14.cell e_1 (by simp only; omega)
    replace e_2 := he14.cell e_2 (by simp only; omega)
    replace e_3 := he14.cell e_3 (by simp only; omega)
    replace e_4 := he14.cell e_4 (by simp only; omega)
    replace e_5 := he14.cell e_5 (by simp only; omega)
    replace e_6 := he14.cell e_6 (by simp only; omega)
    replace h_3 := he14.cell h_3 (by simp only; omega)
    replace h_4 := he14.cell h_4 (by simp only; omega)
    replace h_5 := he14.cell h_5 (by simp only; omega)
    replace res_l := Nat.lt_of_lt_of_le res_l hz14
    replace e_l := Nat.lt_of_lt_of_le e_l hz14
    clear he
    go_upto_region 14 with fail
    clear h_4
    have he15 : Eff (w2.heap.size) (w2.heap.size + 1) w14 (w14.setCell ⟨w2.heap.size, 5, none⟩ (.int .i64 (n * 7))) := eff_set _ _ _ _
    replace e_f0 := set_frozen (p := ⟨w2.heap.size, 5, none⟩) e_f0 (.int .i64 (n * 7))
    replace e_f1 := set_frozen (p := ⟨w2.heap.size, 5, none⟩) e_f1 (.int .i64 (n * 7))
    replace e_f2 := set_frozen (p := ⟨w2.heap.size, 5, none⟩) e_f2 (.int .i64 (n * 7))
    replace e_f3 := set_frozen (p := ⟨w2.heap.size, 5, none⟩) e_f3 (.int .i64 (n * 7))
    replace e_f4 := set_frozen (p := ⟨w2.heap.size, 5, none⟩) e_f4 (.int .i64 (n * 7))
    replace e_f5 := set_frozen (p := ⟨w2.heap.size, 5, none⟩) e_f5 (.int .i64 (n * 7))
    replace e_f6 := set_frozen (p := ⟨w2.heap.size, 5, none⟩) e_f6 (.int .i64 (n * 7))
    replace e_0 := set_other (b' := w2.heap.size) (o' := 5) e_0 (.int .i64 (n * 7)) (.inr (by omega))
    replace e_1 := set_other (b' := w2.heap.size) (o' := 5) e_1 (.int .i64 (n * 7)) (.inr (by omega))
    replace e_2 := set_other (b' := w2.heap.size) (o' := 5) e_2 (.int .i64 (n * 7)) (.inr (by omega))
    replace e_3 := set_other (b' := w2.heap.size) (o' := 5) e_3 (.int .i64 (n * 7)) (.inr (by omega))
    replace e_4 := set_other (b' := w2.heap.size) (o' := 5) e_4 (.int .i64 (n * 7)) (.inr (by omega))
    replace e_5 := set_same e_5 (.int .i64 (n * 7))
    replace e_6 := set_other (b' := w2.heap.size) (o' := 5) e_6 (.int .i64 (n * 7)) (.inr (by omega))
    replace h_3 := he15.cell h_3 (by simp only; omega)
    replace h_5 := he15.cell h_5 (by simp only; omega)
    have hz15 : w14.heap.size ≤ (w14.setCell ⟨w2.heap.size, 5, none⟩ (.int .i64 (n * 7))).heap.size := he15.size
    generalize (w14.setCell ⟨w2.heap.size, 5, none⟩ (.int .i64 (n * 7))) = w15 at *
    have E15 : Eff g (g + 1) W w15 := E14.step he15 (by omega)
    have S15 := E15.size
    replace zr := zr.keep he15 (by omega)
    replace res_l := Nat.lt_of_lt_of_le res_l hz15
    replace e_l := Nat.lt_of_lt_of_le e_l hz15
    replace hc := hc.keep he15 (by omega) (by omega)
    go_upto_region 15 with fail
    clear h_5
    have he16 : Eff (w2.heap.size) (w2.heap.size + 1) w15 (w15.setCell ⟨w2.heap.size, 6, none⟩ (.bool false)) := eff_set _ _ _ _
    replace e_f0 := set_frozen (p := ⟨w2.heap.size, 6, none⟩) e_f0 (.bool false)
    replace e_f1 := set_frozen (p := ⟨w2.heap.size, 6, none⟩) e_f1 (.bool false)
    replace e_f2 := set_frozen (p := ⟨w2.heap.size, 6, none⟩) e_f2 (.bool false)
    replace e_f3 := set_frozen (p := ⟨w2.heap.size, 6, none⟩) e_f3 (.bool false)
    replace e_f4 := set_frozen (p := ⟨w2.heap.size, 6, none⟩) e_f4 (.bool false)
    replace e_f5 := set_frozen (p := ⟨w2.heap.size, 6, none⟩) e_f5 (.bool false)
    replace e_f6 := set_frozen (p := ⟨w2.heap.size, 6, none⟩) e_f6 (.bool false)
    replace e_0 := set_other (b' := w2.heap.size) (o' := 6) e_0 (.bool false) (.inr (by omega))
    replace e_1 := set_other (b' := w2.heap.size) (o' := 6) e_1 (.bool false) (.inr (by omega))
    replace e_2 := set_other (b' := w2.heap.size) (o' := 6) e_2 (.bool false) (.inr (by omega))
    replace e_3 := set_other (b' := w2.heap.size) (o' := 6) e_3 (.bool false) (.inr (by omega))
    replace e_4 := set_other (b' := w2.heap.size) (o' := 6) e_4 (.bool false) (.inr (by omega))
    replace e_5 := set_other (b' := w2.heap.size) (o' := 6) e_5 (.bool false) (.inr (by omega))
    replace e_6 := set_same e_6 (.bool false)
    replace h_3 := he16.cell h_3 (by simp only; omega)
    have hz16 : w15.heap.size ≤ (w15.setCell ⟨w2.heap.size, 6, none⟩ (.bool false)).heap.size := he16.size
    generalize (w15.setCell ⟨w2.heap.size, 6, none⟩ (.bool false)) = w16 at *
    have E16 : Eff g (g + 1) W w16 := E15.step he16 (by omega)
    have S16 := E16.size
    replace zr := zr.keep he16 (by omega)
    replace res_l := Nat.lt_of_lt_of_le res_l hz16
    replace e_l := Nat.lt_of_lt_of_le e_l hz16
    replace hc := hc.keep he16 (by omega) (by omega)
    go_wp2_with fail
    refine (l01Below_any B g (14) (by omega) w16 hc).mono ?_
    rintro e w17 hpost
    obtain ⟨q, rfl, ⟨q_0, q_1, -⟩, hc, he⟩ := hpost.eff
    clear hpost
    replace q_1 := q_1 (by omega)
    have he17 : Eff (g) (g + 1) w16 w17 := he
    have hz17 : w16.heap.size ≤ w17.heap.size := he17.size
    have E17 : Eff g (g + 1) W w17 := E16.step he17 (by omega)
    have S17 := E17.size
    replace zr := zr.keep he17 (by omega)
    replace e_f0 := (he17.frozen e_0 (by simp only; omega)).trans e_f0
    replace e_f1 := (he17.frozen e_1 (by simp only; omega)).trans e_f1
    replace e_f2 := (he17.frozen e_2 (by simp only; omega)).trans e_f2
    replace e_f3 := (he17.frozen e_3 (by simp only; omega)).trans e_f3
    replace e_f4 := (he17.frozen e_4 (by simp only; omega)).trans e_f4
    replace e_f5 := (he17.frozen e_5 (by simp only; omega)).trans e_f5
    replace e_f6 := (he17.frozen e_6 (by simp only; omega)).trans e_f6
    replace e_0 := he17.cell e_0 (by simp only; omega)
    replace e_1 := he17.cell e_1 (by simp only; omega)
    replace e_2 := he17.cell e_2 (by simp only; omega)
    replace e_3 := he17.cell e_3 (by simp only; omega)
    replace e_4 := he17.cell e_4 (by simp only; omega)
    replace e_5 := he17.cell e_5 (by simp only; omega)
    replace e_6 := he17.cell e_6 (by simp only; omega)
    replace h_3 := he17.cell h_3 (by simp only; omega)
    replace res_l := Nat.lt_of_lt_of_le res_l hz17
    replace e_l := Nat.lt_of_lt_of_le e_l hz17
    clear he
    by_cases hq : q = 0
    · skip
      subst hq
      go_wp2_with fail
      refine (l01Below_any B g (2) (by omega) w17 hc).mono ?_
      rintro e w18 hpost
      obtain ⟨r, rfl, ⟨r_0, r_1, -⟩, hc, he⟩ := hpost.eff
      clear hpost
      replace r_1 := r_1 (by omega)
      have he18 : Eff (g) (g + 1) w17 w18 := he
      have hz18 : w17.heap.size ≤ w18.heap.size := he18.size
      have E18 : Eff g (g + 1) W w18 := E17.step he18 (by omega)
      have S18 := E18.size
      replace zr := zr.keep he18 (by omega)
      replace e_f0 := (he18.frozen e_0 (by simp only; omega)).trans e_f0
      replace e_f1 := (he18.frozen e_1 (by simp only; omega)).trans e_f1
      replace e_f2 := (he18.frozen e_2 (by simp only; omega)).trans e_f2
      replace e_f3 := (he18.frozen e_3 (by simp only; omega)).trans e_f3
      replace e_f4 := (he18.frozen e_4 (by simp only; omega)).trans e_f4
      replace e_f5 := (he18.frozen e_5 (by simp only; omega)).trans e_f5
      replace e_f6 := (he18.frozen e_6 (by simp only; omega)).trans e_f6
      replace e_0 := he18.cell e_0 (by simp only; omega)
      replace e_1 := he18.cell e_1 (by simp only; omega)
      replace e_2 := he18.cell e_2 (by simp only; omega)
      replace e_3 := he18.cell e_3 (by simp only; omega)
      replace e_4 := he18.cell e_4 (by simp only; omega)
      replace e_5 := he18.cell e_5 (by simp only; omega)
      replace e_6 := he18.cell e_6 (by simp only; omega)
      replace h_3 := he18.cell h_3 (by simp only; omega)
      replace res_l := Nat.lt_of_lt_of_le res_l hz18
      replace e_l := Nat.lt_of_lt_of_le e_l hz18
      clear he
      go_upto_region 17 with fail
      have he19 : Eff (w2.heap.size) (w2.heap.size + 1) w18 (w18.setCell ⟨w2.heap.size, 4, none⟩ (.int .i64 (1125899906842624 - r))) := eff_set _ _ _ _
      replace e_f0 := set_frozen (p := ⟨w2.heap.size, 4, none⟩) e_f0 (.int .i64 (1125899906842624 - r))
      replace e_f1 := set_frozen (p := ⟨w2.heap.size, 4, none⟩) e_f1 (.int .i64 (1125899906842624 - r))
      replace e_f2 := set_frozen (p := ⟨w2.heap.size, 4, none⟩) e_f2 (.int .i64 (1125899906842624 - r))
      replace e_f3 := set_frozen (p := ⟨w2.heap.size, 4, none⟩) e_f3 (.int .i64 (1125899906842624 - r))
      replace e_f4 := set_frozen (p := ⟨w2.heap.size, 4, none⟩) e_f4 (.int .i64 (1125899906842624 - r))
      replace e_f5 := set_frozen (p := ⟨w2.heap.size, 4, none⟩) e_f5 (.int .i64 (1125899906842624 - r))
      replace e_f6 := set_frozen (p := ⟨w2.heap.size, 4, none⟩) e_f6 (.int .i64 (1125899906842624 - r))
      replace e_0 := set_other (b' := w2.heap.size) (o' := 4) e_0 (.int .i64 (1125899906842624 - r)) (.inr (by omega))
      replace e_1 := set_other (b' := w2.heap.size) (o' := 4) e_1 (.int .i64 (1125899906842624 - r)) (.inr (by omega))
      replace e_2 := set_other (b' := w2.heap.size) (o' := 4) e_2 (.int .i64 (1125899906842624 - r)) (.inr (by omega))
      replace e_3 := set_other (b' := w2.heap.size) (o' := 4) e_3 (.int .i64 (1125899906842624 - r)) (.inr (by omega))
      replace e_4 := set_same e_4 (.int .i64 (1125899906842624 - r))
      replace e_5 := set_other (b' := w2.heap.size) (o' := 4) e_5 (.int .i64 (1125899906842624 - r)) (.inr (by omega))
      replace e_6 := set_other (b' := w2.heap.size) (o' := 4) e_6 (.int .i64 (1125899906842624 - r)) (.inr (by omega))
      replace h_3 := he19.cell h_3 (by simp only; omega)
      have hz19 : w18.heap.size ≤ (w18.setCell ⟨w2.heap.size, 4, none⟩ (.int .i64 (1125899906842624 - r))).heap.size := he19.size
      generalize (w18.setCell ⟨w2.heap.size, 4, none⟩ (.int .i64 (1125899906842624 - r))) = w19 at *
      have E19 : Eff g (g + 1) W w19 := E18.step he19 (by omega)
      have S19 := E19.size
      replace zr := zr.keep he19 (by omega)
      replace res_l := Nat.lt_of_lt_of_le res_l hz19
      replace e_l := Nat.lt_of_lt_of_le e_l hz19
      replace hc := hc.keep he19 (by omega) (by omega)
      obtain ⟨res_0, res_1, res_2, res_3, res_4, res_5, res_6, res_f0, res_f1, res_f2, res_f3, res_f4, res_f5, res_f6⟩ := zr
      go_wp2_with fail
      have r0 : (((((((w19.setCell ⟨W.heap.size, 0, none⟩ (.int .i64 (1 + x))).setCell ⟨W.heap.size, 1, none⟩ (.int .i64 (1 + a))).setCell ⟨W.heap.size, 2, none⟩ (.int .i64 (1 + b))).setCell ⟨W.heap.size, 3, none⟩ (.int .i64 to)).setCell ⟨W.heap.size, 4, none⟩ (.int .i64 (1125899906842624 - r))).setCell ⟨W.heap.size, 5, none⟩ (.int .i64 (n * 7))).setCell ⟨W.heap.size, 6, none⟩ (.bool false)).cell? ⟨W.heap.size, 0, none⟩ = some (.int .i64 (1 + x)) := set_other (set_other (set_other (set_other (set_other (set_other (set_same (res_0) _) _ (.inr (by omega))) _ (.inr (by omega))) _ (.inr (by omega))) _ (.inr (by omega))) _ (.inr (by omega))) _ (.inr (by omega))
      have r1 : (((((((w19.setCell ⟨W.heap.size, 0, none⟩ (.int .i64 (1 + x))).setCell ⟨W.heap.size, 1, none⟩ (.int .i64 (1 + a))).setCell ⟨W.heap.size, 2, none⟩ (.int .i64 (1 + b))).setCell ⟨W.heap.size, 3, none⟩ (.int .i64 to)).setCell ⟨W.heap.size, 4, none⟩ (.int .i64 (1125899906842624 - r))).setCell ⟨W.heap.size, 5, none⟩ (.int .i64 (n * 7))).setCell ⟨W.heap.size, 6, none⟩ (.bool false)).cell? ⟨W.heap.size, 1, none⟩ = some (.int .i64 (1 + a)) := set_other (set_other (set_other (set_other (set_other (set_same (set_other (res_1) _ (.inr (by omega))) _) _ (.inr (by omega))) _ (.inr (by omega))) _ (.inr (by omega))) _ (.inr (by omega))) _ (.inr (by omega))
      have r2 : (((((((w19.setCell ⟨W.heap.size, 0, none⟩ (.int .i64 (1 + x))).setCell ⟨W.heap.size, 1, none⟩ (.int .i64 (1 + a))).setCell ⟨W.heap.size, 2, none⟩ (.int .i64 (1 + b))).setCell ⟨W.heap.size, 3, none⟩ (.int .i64 to)).setCell ⟨W.heap.size, 4, none⟩ (.int .i64 (1125899906842624 - r))).setCell ⟨W.heap.size, 5, none⟩ (.int .i64 (n * 7))).setCell ⟨W.heap.size, 6, none⟩ (.bool false)).cell? ⟨W.heap.size, 2, none⟩ = some (.int .i64 (1 + b)) := set_other (set_other (set_other (set_other (set_same (set_other (set_other (res_2) _ (.inr (by omega))) _ (.inr (by omega))) _) _ (.inr (by omega))) _ (.inr (by omega))) _ (.inr (by omega))) _ (.inr (by omega))
      have r3 : (((((((w19.setCell ⟨W.heap.size, 0, none⟩ (.int .i64 (1 + x))).setCell ⟨W.heap.size, 1, none⟩ (.int .i64 (1 + a))).setCell ⟨W.heap.size, 2, none⟩ (.int .i64 (1 + b))).setCell ⟨W.heap.size, 3, none⟩ (.int .i64 to)).setCell ⟨W.heap.size, 4, none⟩ (.int .i64 (1125899906842624 - r))).setCell ⟨W.heap.size, 5, none⟩ (.int .i64 (n * 7))).setCell ⟨W.heap.size, 6, none⟩ (.bool false)).cell? ⟨W.heap.size, 3, none⟩ = some (.int .i64 to) := set_other (set_other (set_other (set_same (set_other (set_other (set_other (res_3) _ (.inr (by omega))) _ (.inr (by omega))) _ (.inr (by omega))) _) _ (.inr (by omega))) _ (.inr (by omega))) _ (.inr (by omega))
      have r4 : (((((((w19.setCell ⟨W.heap.size, 0, none⟩ (.int .i64 (1 + x))).setCell ⟨W.heap.size, 1, none⟩ (.int .i64 (1 + a))).setCell ⟨W.heap.size, 2, none⟩ (.int .i64 (1 + b))).setCell ⟨W.heap.size, 3, none⟩ (.int .i64 to)).setCell ⟨W.heap.size, 4, none⟩ (.int .i64 (1125899906842624 - r))).setCell ⟨W.heap.size, 5, none⟩ (.int .i64 (n * 7))).setCell ⟨W.heap.size, 6, none⟩ (.bool false)).cell? ⟨W.heap.size, 4, none⟩ = some (.int .i64 (1125899906842624 - r)) := set_other (set_other (set_same (set_other (set_other (set_other (set_other (res_4) _ (.inr (by omega))) _ (.inr (by omega))) _ (.inr (by omega))) _ (.inr (by omega))) _) _ (.inr (by omega))) _ (.inr (by omega))
      have r5 : (((((((w19.setCell ⟨W.heap.size, 0, none⟩ (.int .i64 (1 + x))).setCell ⟨W.heap.size, 1, none⟩ (.int .i64 (1 + a))).setCell ⟨W.heap.size, 2, none⟩ (.int .i64 (1 + b))).setCell ⟨W.heap.size, 3, none⟩ (.int .i64 to)).setCell ⟨W.heap.size, 4, none⟩ (.int .i64 (1125899906842624 - r))).setCell ⟨W.heap.size, 5, none⟩ (.int .i64 (n * 7))).setCell ⟨W.heap.size, 6, none⟩ (.bool false)).cell? ⟨W.heap.size, 5, none⟩ = some (.int .i64 (n * 7)) := set_other (set_same (set_other (set_other (set_other (set_other (set_other (res_5) _ (.inr (by omega))) _ (.inr (by omega))) _ (.inr (by omega))) _ (.inr (by omega))) _ (.inr (by omega))) _) _ (.inr (by omega))
      have r6 : (((((((w19.setCell ⟨W.heap.size, 0, none⟩ (.int .i64 (1 + x))).setCell ⟨W.heap.size, 1, none⟩ (.int .i64 (1 + a))).setCell ⟨W.heap.size, 2, none⟩ (.int .i64 (1 + b))).setCell ⟨W.heap.size, 3, none⟩ (.int .i64 to)).setCell ⟨W.heap.size, 4, none⟩ (.int .i64 (1125899906842624 - r))).setCell ⟨W.heap.size, 5, none⟩ (.int .i64 (n * 7))).setCell ⟨W.heap.size, 6, none⟩ (.bool false)).cell? ⟨W.heap.size, 6, none⟩ = some (.bool false) := set_same (set_other (set_other (set_other (set_other (set_other (set_other (res_6) _ (.inr (by omega))) _ (.inr (by omega))) _ (.inr (by omega))) _ (.inr (by omega))) _ (.inr (by omega))) _ (.inr (by omega))) _
      refine bodyPost_ret (v := .agg #[.int .i64 (1 + x), .int .i64 (1 + a), .int .i64 (1 + b), .int .i64 to, .int .i64 (1125899906842624 - r), .int .i64 (n * 7), .bool false]) (by simp [results, Tryd.results63, go_sem, r0, r1, r2, r3, r4, r5, r6]) rfl ?_
      exact EvPost.mk E19 hc (eff_set7 _ _ _ _ _ _ _ _ _) (by omega) (by omega)
    · skip
      have hq0 : (q == 0) = false := by simp; omega
      obtain ⟨res_0, res_1, res_2, res_3, res_4, res_5, res_6, res_f0, res_f1, res_f2, res_f3, res_f4, res_f5, res_f6⟩ := zr
      go_wp2_with fail
      have r0 : (((((((w17.setCell ⟨W.heap.size, 0, none⟩ (.int .i64 (1 + x))).setCell ⟨W.heap.size, 1, none⟩ (.int .i64 (1 + a))).setCell ⟨W.heap.size, 2, none⟩ (.int .i64 (1 + b))).setCell ⟨W.heap.size, 3, none⟩ (.int .i64 to)).setCell ⟨W.heap.size, 4, none⟩ (.int .i64 (1 + m * 25))).setCell ⟨W.heap.size, 5, none⟩ (.int .i64 (n * 7))).setCell ⟨W.heap.size, 6, none⟩ (.bool false)).cell? ⟨W.heap.size, 0, none⟩ = some (.int .i64 (1 + x)) := set_other (set_other (set_other (set_other (set_other (set_other (set_same (res_0) _) _ (.inr (by omega))) _ (.inr (by omega))) _ (.inr (by omega))) _ (.inr (by omega))) _ (.inr (by omega))) _ (.inr (by omega))
      have r1 : (((((((w17.setCell ⟨W.heap.size, 0, none⟩ (.int .i64 (1 + x))).setCell ⟨W.heap.size, 1, none⟩ (.int .i64 (1 + a))).setCell ⟨W.heap.size, 2, none⟩ (.int .i64 (1 + b))).setCell ⟨W.heap.size, 3, none⟩ (.int .i64 to)).setCell ⟨W.heap.size, 4, none⟩ (.int .i64 (1 + m * 25))).setCell ⟨W.heap.size, 5, none⟩ (.int .i64 (n * 7))).setCell ⟨W.heap.size, 6, none⟩ (.bool false)).cell? ⟨W.heap.size, 1, none⟩ = some (.int .i64 (1 + a)) := set_other (set_other (set_other (set_other (set_other (set_same (set_other (res_1) _ (.inr (by omega))) _) _ (.inr (by omega))) _ (.inr (by omega))) _ (.inr (by omega))) _ (.inr (by omega))) _ (.inr (by omega))
      have r2 : (((((((w17.setCell ⟨W.heap.size, 0, none⟩ (.int .i64 (1 + x))).setCell ⟨W.heap.size, 1, none⟩ (.int .i64 (1 + a))).setCell ⟨W.heap.size, 2, none⟩ (.int .i64 (1 + b))).setCell ⟨W.heap.size, 3, none⟩ (.int .i64 to)).setCell ⟨W.heap.size, 4, none⟩ (.int .i64 (1 + m * 25))).setCell ⟨W.heap.size, 5, none⟩ (.int .i64 (n * 7))).setCell ⟨W.heap.size, 6, none⟩ (.bool false)).cell? ⟨W.heap.size, 2, none⟩ = some (.int .i64 (1 + b)) := set_other (set_other (set_other (set_other (set_same (set_other (set_other (res_2) _ (.inr (by omega))) _ (.inr (by omega))) _) _ (.inr (by omega))) _ (.inr (by omega))) _ (.inr (by omega))) _ (.inr (by omega))
      have r3 : (((((((w17.setCell ⟨W.heap.size, 0, none⟩ (.int .i64 (1 + x))).setCell ⟨W.heap.size, 1, none⟩ (.int .i64 (1 + a))).setCell ⟨W.heap.size, 2, none⟩ (.int .i64 (1 + b))).setCell ⟨W.heap.size, 3, none⟩ (.int .i64 to)).setCell ⟨W.heap.size, 4, none⟩ (.int .i64 (1 + m * 25))).setCell ⟨W.heap.size, 5, none⟩ (.int .i64 (n * 7))).setCell ⟨W.heap.size, 6, none⟩ (.bool false)).cell? ⟨W.heap.size, 3, none⟩ = some (.int .i64 to) := set_other (set_other (set_other (set_same (set_other (set_other (set_other (res_3) _ (.inr (by omega))) _ (.inr (by omega))) _ (.inr (by omega))) _) _ (.inr (by omega))) _ (.inr (by omega))) _ (.inr (by omega))
      have r4 : (((((((w17.setCell ⟨W.heap.size, 0, none⟩ (.int .i64 (1 + x))).setCell ⟨W.heap.size, 1, none⟩ (.int .i64 (1 + a))).setCell ⟨W.heap.size, 2, none⟩ (.int .i64 (1 + b))).setCell ⟨W.heap.size, 3, none⟩ (.int .i64 to)).setCell ⟨W.heap.size, 4, none⟩ (.int .i64 (1 + m * 25))).setCell ⟨W.heap.size, 5, none⟩ (.int .i64 (n * 7))).setCell ⟨W.heap.size, 6, none⟩ (.bool false)).cell? ⟨W.heap.size, 4, none⟩ = some (.int .i64 (1 + m * 25)) := set_other (set_other (set_same (set_other (set_other (set_other (set_other (res_4) _ (.inr (by omega))) _ (.inr (by omega))) _ (.inr (by omega))) _ (.inr (by omega))) _) _ (.inr (by omega))) _ (.inr (by omega))
      have r5 : (((((((w17.setCell ⟨W.heap.size, 0, none⟩ (.int .i64 (1 + x))).setCell ⟨W.heap.size, 1, none⟩ (.int .i64 (1 + a))).setCell ⟨W.heap.size, 2, none⟩ (.int .i64 (1 + b))).setCell ⟨W.heap.size, 3, none⟩ (.int .i64 to)).setCell ⟨W.heap.size, 4, none⟩ (.int .i64 (1 + m * 25))).setCell ⟨W.heap.size, 5, none⟩ (.int .i64 (n * 7))).setCell ⟨W.heap.size, 6, none⟩ (.bool false)).cell? ⟨W.heap.size, 5, none⟩ = some (.int .i64 (n * 7)) := set_other (set_same (set_other (set_other (set_other (set_other (set_other (res_5) _ (.inr (by omega))) _ (.inr (by omega))) _ (.inr (by omega))) _ (.inr (by omega))) _ (.inr (by omega))) _) _ (.inr (by omega))
      have r6 : (((((((w17.setCell ⟨W.heap.size, 0, none⟩ (.int .i64 (1 + x))).setCell ⟨W.heap.size, 1, none⟩ (.int .i64 (1 + a))).setCell ⟨W.heap.size, 2, none⟩ (.int .i64 (1 + b))).setCell ⟨W.heap.size, 3, none⟩ (.int .i64 to)).setCell ⟨W.heap.size, 4, none⟩ (.int .i64 (1 + m * 25))).setCell ⟨W.heap.size, 5, none⟩ (.int .i64 (n * 7))).setCell ⟨W.heap.size, 6, none⟩ (.bool false)).cell? ⟨W.heap.size, 6, none⟩ = some (.bool false) := set_same (set_other (set_other (set_other (set_other (set_other (set_other (res_6) _ (.inr (by omega))) _ (.inr (by omega))) _ (.inr (by omega))) _ (.inr (by omega))) _ (.inr (by omega))) _ (.inr (by omega))) _
      refine bodyPost_ret (v := .agg #[.int .i64 (1 + x), .int .i64 (1 + a), .int .i64 (1 + b), .int .i64 to, .int .i64 (1 + m * 25), .int .i64 (n * 7), .bool false]) (by simp [results, Tryd.results63, go_sem, r0, r1, r2, r3, r4, r5, r6]) rfl ?_
      exact EvPost.mk E17 hc (eff_set7 _ _ _ _ _ _ _ _ _) (by omega) (by omega)
  · skip
    have HP := Lib.hid hp
    clear hp
    go_wp2_with fail
    have he3 : Eff 0 0 w2 (w2.alloc (.cells #[.int .i64 (1 + x), .int .i64 0, .int .i64 0, .int .i64 0, .int .i64 0, .int .i64 0, .bool false] 32)) := Eff.alloc _ _
    have hs3 : (w2.alloc (.cells #[.int .i64 (1 + x), .int .i64 0, .int .i64 0, .int .i64 0, .int .i64 0, .int .i64 0, .bool false] 32)).heap.size = w2.heap.size + 1 := (by simp)
    have e_0 : (w2.alloc (.cells #[.int .i64 (1 + x), .int .i64 0, .int .i64 0, .int .i64 0, .int .i64 0, .int .i64 0, .bool false] 32)).cell? ⟨w2.heap.size, 0, none⟩ = some (.int .i64 (1 + x)) := var_cell _ _ _ _ _ rfl
    have e_1 : (w2.alloc (.cells #[.int .i64 (1 + x), .int .i64 0, .int .i64 0, .int .i64 0, .int .i64 0, .int .i64 0, .bool false] 32)).cell? ⟨w2.heap.size, 1, none⟩ = some (.int .i64 0) := var_cell _ _ _ _ _ rfl
    have e_2 : (w2.alloc (.cells #[.int .i64 (1 + x), .int .i64 0, .int .i64 0, .int .i64 0, .int .i64 0, .int .i64 0, .bool false] 32)).cell? ⟨w2.heap.size, 2, none⟩ = some (.int .i64 0) := var_cell _ _ _ _ _ rfl
    have e_3 : (w2.alloc (.cells #[.int .i64 (1 + x), .int .i64 0, .int .i64 0, .int .i64 0, .int .i64 0, .int .i64 0, .bool false] 32)).cell? ⟨w2.heap.size, 3, none⟩ = some (.int .i64 0) := var_cell _ _ _ _ _ rfl
    have e_4 : (w2.alloc (.cells #[.int .i64 (1 + x), .int .i64 0, .int .i64 0, .int .i64 0, .int .i64 0, .int .i64 0, .bool false] 32)).cell? ⟨w2.heap.size, 4, none⟩ = some (.int .i64 0) := var_cell _ _ _ _ _ rfl
    have e_5 : (w2.alloc (.cells #[.int .i64 (1 + x), .int .i64 0, .int .i64 0, .int .i64 0, .int .i64 0, .int .i64 0, .bool false] 32)).cell? ⟨w2.heap.size, 5, none⟩ = some (.int .i64 0) := var_cell _ _ _ _ _ rfl
    have e_6 : (w2.alloc (.cells #[.int .i64 (1 + x), .int .i64 0, .int .i64 0, .int .i64 0, .int .i64 0, .int .i64 0, .bool false] 32)).cell? ⟨w2.heap.size, 6, none⟩ = some (.bool false) := var_cell _ _ _ _ _ rfl
    have e_f0 : (w2.alloc (.cells #[.int .i64 (1 + x), .int .i64 0, .int .i64 0, .int .i64 0, .int .i64 0, .int .i64 0, .bool false] 32)).frozen? ⟨w2.heap.size, 0, none⟩ = false := var_frozen _ _ _ _
    have e_f1 : (w2.alloc (.cells #[.int .i64 (1 + x), .int .i64 0, .int .i64 0, .int .i64 0, .int .i64 0, .int .i64 0, .bool false] 32)).frozen? ⟨w2.heap.size, 1, none⟩ = false := var_frozen _ _ _ _
    have e_f2 : (w2.alloc (.cells #[.int .i64 (1 + x), .int .i64 0, .int .i64 0, .int .i64 0, .int .i64 0, .int .i64 0, .bool false] 32)).frozen? ⟨w2.heap.size, 2, none⟩ = false := var_frozen _ _ _ _
    have e_f3 : (w2.alloc (.cells #[.int .i64 (1 + x), .int .i64 0, .int .i64 0, .int .i64 0, .int .i64 0, .int .i64 0, .bool false] 32)).frozen? ⟨w2.heap.size, 3, none⟩ = false := var_frozen _ _ _ _
    have e_f4 : (w2.alloc (.cells #[.int .i64 (1 + x), .int .i64 0, .int .i64 0, .int .i64 0, .int .i64 0, .int .i64 0, .bool false] 32)).frozen? ⟨w2.heap.size, 4, none⟩ = false := var_frozen _ _ _ _
    have e_f5 : (w2.alloc (.cells #[.int .i64 (1 + x), .int .i64 0, .int .i64 0, .int .i64 0, .int .i64 0, .int .i64 0, .bool false] 32)).frozen? ⟨w2.heap.size, 5, none⟩ = false := var_frozen _ _ _ _
    have e_f6 : (w2.alloc (.cells #[.int .i64 (1 + x), .int .i64 0, .int .i64 0, .int .i64 0, .int .i64 0, .int .i64 0, .bool false] 32)).frozen? ⟨w2.heap.size, 6, none⟩ = false := var_frozen _ _ _ _
    generalize (w2.alloc (.cells #[.int .i64 (1 + x), .int .i64 0, .int .i64 0, .int .i64 0, .int .i64 0, .int .i64 0, .bool false] 32)) = w3 at *
    have hz3 : w2.heap.size ≤ w3.heap.size := he3.size
    have E3 : Eff g (g + 1) W w3 := E2.step he3 (by omega)
    have S3 := E3.size
    replace zr := zr.keep he3 (by omega)
    replace res_l := Nat.lt_of_lt_of_le res_l hz3
    replace hc := hc.keep he3 (by omega) (by omega)
    have e_l : w2.heap.size < w3.heap.size := (by omega)
    have hVH : w2.heap.size < w3.heap.size := by omega
    clear hs3
    refine (l04HasC (1 + x) q0 q1 w3.heap.size w3 rfl).mono ?_
    rintro e w4 ⟨rfl, h_0, h_1, h_2, h_3, h_4, h_5, he⟩
    rw [HP.out] at h_0 h_1 h_2 h_3 h_4 h_5
    have he4 : Eff (0) (0) w3 w4 := he
    have hz4 : w3.heap.size ≤ w4.heap.size := he4.size
    have E4 : Eff g (g + 1) W w4 := E3.step he4 (by omega)
    have S4 := E4.size
    replace zr := zr.keep he4 (by omega)
    replace e_f0 := (he4.frozen e_0 (by simp only; omega)).trans e_f0
    replace e_f1 := (he4.frozen e_1 (by simp only; omega)).trans e_f1
    replace e_f2 := (he4.frozen e_2 (by simp only; omega)).trans e_f2
    replace e_f3 := (he4.frozen e_3 (by simp only; omega)).trans e_f3
    replace e_f4 := (he4.frozen e_4 (by simp only; omega)).trans e_f4
    replace e_f5 := (he4.frozen e_5 (by simp only; omega)).trans e_f5
    replace e_f6 := (he4.frozen e_6 (by simp only; omega)).trans e_f6
    replace e_0 := he4.cell e_0 (by simp only; omega)
    replace e_1 := he4.cell e_1 (by simp only; omega)
    replace e_2 := he4.cell e_2 (by simp only; omega)
    replace e_3 := he4.cell e_3 (by simp only; omega)
    replace e_4 := he4.cell e_4 (by simp only; omega)
    replace e_5 := he4.cell e_5 (by simp only; omega)
    replace e_6 := he4.cell e_6 (by simp only; omega)
    replace res_l := Nat.lt_of_lt_of_le res_l hz4
    replace e_l := Nat.lt_of_lt_of_le e_l hz4
    replace hc := hc.keep he4 (by omega) (by omega)
    clear he
    have h_l : w3.heap.size < w4.heap.size := World.block_lt_of_cell? _ _ h_0
    go_upto_region 15 with fail
    clear h_0
    clear h_1
    clear h_2
    clear h_4
    clear h_5
    have he5 : Eff (w2.heap.size) (w2.heap.size + 1) w4 (w4.setCell ⟨w2.heap.size, 6, none⟩ (.bool false)) := eff_set _ _ _ _
    replace e_f0 := set_frozen (p := ⟨w2.heap.size, 6, none⟩) e_f0 (.bool false)
    replace e_f1 := set_frozen (p := ⟨w2.heap.size, 6, none⟩) e_f1 (.bool false)
    replace e_f2 := set_frozen (p := ⟨w2.heap.size, 6, none⟩) e_f2 (.bool false)
    replace e_f3 := set_frozen (p := ⟨w2.heap.size, 6, none⟩) e_f3 (.bool false)
    replace e_f4 := set_frozen (p := ⟨w2.heap.size, 6, none⟩) e_f4 (.bool false)
    replace e_f5 := set_frozen (p := ⟨w2.heap.size, 6, none⟩) e_f5 (.bool false)
    replace e_f6 := set_frozen (p := ⟨w2.heap.size, 6, none⟩) e_f6 (.bool false)
    replace e_0 := set_other (b' := w2.heap.size) (o' := 6) e_0 (.bool false) (.inr (by omega))
    replace e_1 := set_other (b' := w2.heap.size) (o' := 6) e_1 (.bool false) (.inr (by omega))
    replace e_2 := set_other (b' := w2.heap.size) (o' := 6) e_2 (.bool false) (.inr (by omega))
    replace e_3 := set_other (b' := w2.heap.size) (o' := 6) e_3 (.bool false) (.inr (by omega))
    replace e_4 := set_other (b' := w2.heap.size) (o' := 6) e_4 (.bool false) (.inr (by omega))
    replace e_5 := set_other (b' := w2.heap.size) (o' := 6) e_5 (.bool false) (.inr (by omega))
    replace e_6 := set_same e_6 (.bool false)
    replace h_3 := he5.cell h_3 (by simp only; omega)
    have hz5 : w4.heap.size ≤ (w4.setCell ⟨w2.heap.size, 6, none⟩ (.bool false)).heap.size := he5.size
    generalize (w4.setCell ⟨w2.heap.size, 6, none⟩ (.bool false)) = w5 at *
    have E5 : Eff g (g + 1) W w5 := E4.step he5 (by omega)
    have S5 := E5.size
    replace zr := zr.keep he5 (by omega)
    replace res_l := Nat.lt_of_lt_of_le res_l hz5
    replace e_l := Nat.lt_of_lt_of_le e_l hz5
    replace hc := hc.keep he5 (by omega) (by omega)
    go_wp2_with fail
    refine (l01Below_any B g (14) (by omega) w5 hc).mono ?_
    rintro e w6 hpost
    obtain ⟨q, rfl, ⟨q_0, q_1, -⟩, hc, he⟩ := hpost.eff
    clear hpost
    replace q_1 := q_1 (by omega)
    have he6 : Eff (g) (g + 1) w5 w6 := he
    have hz6 : w5.heap.size ≤ w6.heap.size := he6.size
    have E6 : Eff g (g + 1) W w6 := E5.step he6 (by omega)
    have S6 := E6.size
    replace zr := zr.keep he6 (by omega)
    replace e_f0 := (he6.frozen e_0 (by simp only; omega)).trans e_f0
    replace e_f1 := (he6.frozen e_1 (by simp only; omega)).trans e_f1
    replace e_f2 := (he6.frozen e_2 (by simp only; omega)).trans e_f2
    replace e_f3 := (he6.frozen e_3 (by simp only; omega)).trans e_f3
    replace e_f4 := (he6.frozen e_4 (by simp only; omega)).trans e_f4
    replace e_f5 := (he6.frozen e_5 (by simp only; omega)).trans e_f5
    replace e_f6 := (he6.frozen e_6 (by simp only; omega)).trans e_f6
    replace e_0 := he6.cell e_0 (by simp only; omega)
    replace e_1 := he6.cell e_1 (by simp only; omega)
    replace e_2 := he6.cell e_2 (by simp only; omega)
    replace e_3 := he6.cell e_3 (by simp only; omega)
    replace e_4 := he6.cell e_4 (by simp only; omega)
    replace e_5 := he6.cell e_5 (by simp only; omega)
    replace e_6 := he6.cell e_6 (by simp only; omega)
    replace h_3 := he6.cell h_3 (by simp only; omega)
    replace res_l := Nat.lt_of_lt_of_le res_l hz6
    replace e_l := Nat.lt_of_lt_of_le e_l hz6
    clear he
    by_cases hq : q = 0
    · skip
      subst hq
      obtain ⟨res_0, res_1, res_2, res_3, res_4, res_5, res_6, res_f0, res_f1, res_f2, res_f3, res_f4, res_f5, res_f6⟩ := zr
      go_wp2_with fail
      have r0 : (((((((w6.setCell ⟨W.heap.size, 0, none⟩ (.int .i64 (1 + x))).setCell ⟨W.heap.size, 1, none⟩ (.int .i64 0)).setCell ⟨W.heap.size, 2, none⟩ (.int .i64 0)).setCell ⟨W.heap.size, 3, none⟩ (.int .i64 0)).setCell ⟨W.heap.size, 4, none⟩ (.int .i64 0)).setCell ⟨W.heap.size, 5, none⟩ (.int .i64 0)).setCell ⟨W.heap.size, 6, none⟩ (.bool false)).cell? ⟨W.heap.size, 0, none⟩ = some (.int .i64 (1 + x)) := set_other (set_other (set_other (set_other (set_other (set_other (set_same (res_0) _) _ (.inr (by omega))) _ (.inr (by omega))) _ (.inr (by omega))) _ (.inr (by omega))) _ (.inr (by omega))) _ (.inr (by omega))
      have r1 : (((((((w6.setCell ⟨W.heap.size, 0, none⟩ (.int .i64 (1 + x))).setCell ⟨W.heap.size, 1, none⟩ (.int .i64 0)).setCell ⟨W.heap.size, 2, none⟩ (.int .i64 0)).setCell ⟨W.heap.size, 3, none⟩ (.int .i64 0)).setCell ⟨W.heap.size, 4, none⟩ (.int .i64 0)).setCell ⟨W.heap.size, 5, none⟩ (.int .i64 0)).setCell ⟨W.heap.size, 6, none⟩ (.bool false)).cell? ⟨W.heap.size, 1, none⟩ = some (.int .i64 0) := set_other (set_other (set_other (set_other (set_other (set_same (set_other (res_1) _ (.inr (by omega))) _) _ (.inr (by omega))) _ (.inr (by omega))) _ (.inr (by omega))) _ (.inr (by omega))) _ (.inr (by omega))
      have r2 : (((((((w6.setCell ⟨W.heap.size, 0, none⟩ (.int .i64 (1 + x))).setCell ⟨W.heap.size, 1, none⟩ (.int .i64 0)).setCell ⟨W.heap.size, 2, none⟩ (.int .i64 0)).setCell ⟨W.heap.size, 3, none⟩ (.int .i64 0)).setCell ⟨W.heap.size, 4, none⟩ (.int .i64 0)).setCell ⟨W.heap.size, 5, none⟩ (.int .i64 0)).setCell ⟨W.heap.size, 6, none⟩ (.bool false)).cell? ⟨W.heap.size, 2, none⟩ = some (.int .i64 0) := set_other (set_other (set_other (set_other (set_same (set_other (set_other (res_2) _ (.inr (by omega))) _ (.inr (by omega))) _) _ (.inr (by omega))) _ (.inr (by omega))) _ (.inr (by omega))) _ (.inr (by omega))
      have r3 : (((((((w6.setCell ⟨W.heap.size, 0, none⟩ (.int .i64 (1 + x))).setCell ⟨W.heap.size, 1, none⟩ (.int .i64 0)).setCell ⟨W.heap.size, 2, none⟩ (.int .i64 0)).setCell ⟨W.heap.size, 3, none⟩ (.int .i64 0)).setCell ⟨W.heap.size, 4, none⟩ (.int .i64 0)).setCell ⟨W.heap.size, 5, none⟩ (.int .i64 0)).setCell ⟨W.heap.size, 6, none⟩ (.bool false)).cell? ⟨W.heap.size, 3, none⟩ = some (.int .i64 0) := set_other (set_other (set_other (set_same (set_other (set_other (set_other (res_3) _ (.inr (by omega))) _ (.inr (by omega))) _ (.inr (by omega))) _) _ (.inr (by omega))) _ (.inr (by omega))) _ (.inr (by omega))
      have r4 : (((((((w6.setCell ⟨W.heap.size, 0, none⟩ (.int .i64 (1 + x))).setCell ⟨W.heap.size, 1, none⟩ (.int .i64 0)).setCell ⟨W.heap.size, 2, none⟩ (.int .i64 0)).setCell ⟨W.heap.size, 3, none⟩ (.int .i64 0)).setCell ⟨W.heap.size, 4, none⟩ (.int .i64 0)).setCell ⟨W.heap.size, 5, none⟩ (.int .i64 0)).setCell ⟨W.heap.size, 6, none⟩ (.bool false)).cell? ⟨W.heap.size, 4, none⟩ = some (.int .i64 0) := set_other (set_other (set_same (set_other (set_other (set_other (set_other (res_4) _ (.inr (by omega))) _ (.inr (by omega))) _ (.inr (by omega))) _ (.inr (by omega))) _) _ (.inr (by omega))) _ (.inr (by omega))
      have r5 : (((((((w6.setCell ⟨W.heap.size, 0, none⟩ (.int .i64 (1 + x))).setCell ⟨W.heap.size, 1, none⟩ (.int .i64 0)).setCell ⟨W.heap.size, 2, none⟩ (.int .i64 0)).setCell ⟨W.heap.size, 3, none⟩ (.int .i64 0)).setCell ⟨W.heap.size, 4, none⟩ (.int .i64 0)).setCell ⟨W.heap.size, 5, none⟩ (.int .i64 0)).setCell ⟨W.heap.size, 6, none⟩ (.bool false)).cell? ⟨W.heap.size, 5, none⟩ = some (.int .i64 0) := set_other (set_same (set_other (set_other (set_other (set_other (set_other (res_5) _ (.inr (by omega))) _ (.inr (by omega))) _ (.inr (by omega))) _ (.inr (by omega))) _ (.inr (by omega))) _) _ (.inr (by omega))
      have r6 : (((((((w6.setCell ⟨W.heap.size, 0, none⟩ (.int .i64 (1 + x))).setCell ⟨W.heap.size, 1, none⟩ (.int .i64 0)).setCell ⟨W.heap.size, 2, none⟩ (.int .i64 0)).setCell ⟨W.heap.size, 3, none⟩ (.int .i64 0)).setCell ⟨W.heap.size, 4, none⟩ (.int .i64 0)).setCell ⟨W.heap.size, 5, none⟩ (.int .i64 0)).setCell ⟨W.heap.size, 6, none⟩ (.bool false)).cell? ⟨W.heap.size, 6, none⟩ = some (.bool false) := set_same (set_other (set_other (set_other (set_other (set_other (set_other (res_6) _ (.inr (by omega))) _ (.inr (by omega))) _ (.inr (by omega))) _ (.inr (by omega))) _ (.inr (by omega))) _ (.inr (by omega))) _
      refine bodyPost_ret (v := .agg #[.int .i64 (1 + x), .int .i64 0, .int .i64 0, .int .i64 0, .int .i64 0, .int .i64 0, .bool false]) (by simp [results, Tryd.results63, go_sem, r0, r1, r2, r3, r4, r5, r6]) rfl ?_
      exact EvPost.mk E6 hc (eff_set7 _ _ _ _ _ _ _ _ _) (by omega) (by omega)
    · skip
      have hq0 : (q == 0) = false := by simp; omega
      obtain ⟨res_0, res_1, res_2, res_3, res_4, res_5, res_6, res_f0, res_f1, res_f2, res_f3, res_f4, res_f5, res_f6⟩ := zr
      go_wp2_with fail
      have r0 : (((((((w6.setCell ⟨W.heap.size, 0, none⟩ (.int .i64 (1 + x))).setCell ⟨W.heap.size, 1, none⟩ (.int .i64 0)).setCell ⟨W.heap.size, 2, none⟩ (.int .i64 0)).setCell ⟨W.heap.size, 3, none⟩ (.int .i64 0)).setCell ⟨W.heap.size, 4, none⟩ (.int .i64 0)).setCell ⟨W.heap.size, 5, none⟩ (.int .i64 0)).setCell ⟨W.heap.size, 6, none⟩ (.bool false)).cell? ⟨W.heap.size, 0, none⟩ = some (.int .i64 (1 + x)) := set_other (set_other (set_other (set_other (set_other (set_other (set_same (res_0) _) _ (.inr (by omega))) _ (.inr (by omega))) _ (.inr (by omega))) _ (.inr (by omega))) _ (.inr (by omega))) _ (.inr (by omega))
      have r1 : (((((((w6.setCell ⟨W.heap.size, 0, none⟩ (.int .i64 (1 + x))).setCell ⟨W.heap.size, 1, none⟩ (.int .i64 0)).setCell ⟨W.heap.size, 2, none⟩ (.int .i64 0)).setCell ⟨W.heap.size, 3, none⟩ (.int .i64 0)).setCell ⟨W.heap.size, 4, none⟩ (.int .i64 0)).setCell ⟨W.heap.size, 5, none⟩ (.int .i64 0)).setCell ⟨W.heap.size, 6, none⟩ (.bool false)).cell? ⟨W.heap.size, 1, none⟩ = some (.int .i64 0) := set_other (set_other (set_other (set_other (set_other (set_same (set_other (res_1) _ (.inr (by omega))) _) _ (.inr (by omega))) _ (.inr (by omega))) _ (.inr (by omega))) _ (.inr (by omega))) _ (.inr (by omega))
      have r2 : (((((((w6.setCell ⟨W.heap.size, 0, none⟩ (.int .i64 (1 + x))).setCell ⟨W.heap.size, 1, none⟩ (.int .i64 0)).setCell ⟨W.heap.size, 2, none⟩ (.int .i64 0)).setCell ⟨W.heap.size, 3, none⟩ (.int .i64 0)).setCell ⟨W.heap.size, 4, none⟩ (.int .i64 0)).setCell ⟨W.heap.size, 5, none⟩ (.int .i64 0)).setCell ⟨W.heap.size, 6, none⟩ (.bool false)).cell? ⟨W.heap.size, 2, none⟩ = some (.int .i64 0) := set_other (set_other (set_other (set_other (set_same (set_other (set_other (res_2) _ (.inr (by omega))) _ (.inr (by omega))) _) _ (.inr (by omega))) _ (.inr (by omega))) _ (.inr (by omega))) _ (.inr (by omega))
      have r3 : (((((((w6.setCell ⟨W.heap.size, 0, none⟩ (.int .i64 (1 + x))).setCell ⟨W.heap.size, 1, none⟩ (.int .i64 0)).setCell ⟨W.heap.size, 2, none⟩ (.int .i64 0)).setCell ⟨W.heap.size, 3, none⟩ (.int .i64 0)).setCell ⟨W.heap.size, 4, none⟩ (.int .i64 0)).setCell ⟨W.heap.size, 5, none⟩ (.int .i64 0)).setCell ⟨W.heap.size, 6, none⟩ (.bool false)).cell? ⟨W.heap.size, 3, none⟩ = some (.int .i64 0) := set_other (set_other (set_other (set_same (set_other (set_other (set_other (res_3) _ (.inr (by omega))) _ (.inr (by omega))) _ (.inr (by omega))) _) _ (.inr (by omega))) _ (.inr (by omega))) _ (.inr (by omega))
      have r4 : (((((((w6.setCell ⟨W.heap.size, 0, none⟩ (.int .i64 (1 + x))).setCell ⟨W.heap.size, 1, none⟩ (.int .i64 0)).setCell ⟨W.heap.size, 2, none⟩ (.int .i64 0)).setCell ⟨W.heap.size, 3, none⟩ (.int .i64 0)).setCell ⟨W.heap.size, 4, none⟩ (.int .i64 0)).setCell ⟨W.heap.size, 5, none⟩ (.int .i64 0)).setCell ⟨W.heap.size, 6, none⟩ (.bool false)).cell? ⟨W.heap.size, 4, none⟩ = some (.int .i64 0) := set_other (set_other (set_same (set_other (set_other (set_other (set_other (res_4) _ (.inr (by omega))) _ (.inr (by omega))) _ (.inr (by omega))) _ (.inr (by omega))) _) _ (.inr (by omega))) _ (.inr (by omega))
      have r5 : (((((((w6.setCell ⟨W.heap.size, 0, none⟩ (.int .i64 (1 + x))).setCell ⟨W.heap.size, 1, none⟩ (.int .i64 0)).setCell ⟨W.heap.size, 2, none⟩ (.int .i64 0)).setCell ⟨W.heap.size, 3, none⟩ (.int .i64 0)).setCell ⟨W.heap.size, 4, none⟩ (.int .i64 0)).setCell ⟨W.heap.size, 5, none⟩ (.int .i64 0)).setCell ⟨W.heap.size, 6, none⟩ (.bool false)).cell? ⟨W.heap.size, 5, none⟩ = some (.int .i64 0) := set_other (set_same (set_other (set_other (set_other (set_other (set_other (res_5) _ (.inr (by omega))) _ (.inr (by omega))) _ (.inr (by omega))) _ (.inr (by omega))) _ (.inr (by omega))) _) _ (.inr (by omega))
      have r6 : (((((((w6.setCell ⟨W.heap.size, 0, none⟩ (.int .i64 (1 + x))).setCell ⟨W.heap.size, 1, none⟩ (.int .i64 0)).setCell ⟨W.heap.size, 2, none⟩ (.int .i64 0)).setCell ⟨W.heap.size, 3, none⟩ (.int .i64 0)).setCell ⟨W.heap.size, 4, none⟩ (.int .i64 0)).setCell ⟨W.heap.size, 5, none⟩ (.int .i64 0)).setCell ⟨W.heap.size, 6, none⟩ (.bool false)).cell? ⟨W.heap.size, 6, none⟩ = some (.bool false) := set_same (set_other (set_other (set_other (set_other (set_other (set_other (res_6) _ (.inr (by omega))) _ (.inr (by omega))) _ (.inr (by omega))) _ (.inr (by omega))) _ (.inr (by omega))) _ (.inr (by omega))) _
      refine bodyPost_ret (v := .agg #[.int .i64 (1 + x), .int .i64 0, .int .i64 0, .int .i64 0, .int .i64 0, .int .i64 0, .bool false]) (by simp [results, Tryd.results63, go_sem, r0, r1, r2, r3, r4, r5, r6]) rfl ?_
      exact EvPost.mk E6 hc (eff_set7 _ _ _ _ _ _ _ _ _) (by omega) (by omega)
  · skip
    have HP := Lib.hid hp
    clear hp
    go_wp2_with fail
    have he3 : Eff 0 0 w2 (w2.alloc (.cells #[.int .i64 (1 + x), .int .i64 0, .int .i64 0, .int .i64 0, .int .i64 0, .int .i64 0, .bool false] 32)) := Eff.alloc _ _
    have hs3 : (w2.alloc (.cells #[.int .i64 (1 + x), .int .i64 0, .int .i64 0, .int .i64 0, .int .i64 0, .int .i64 0, .bool false] 32)).heap.size = w2.heap.size + 1 := (by simp)
    have e_0 : (w2.alloc (.cells #[.int .i64 (1 + x), .int .i64 0, .int .i64 0, .int .i64 0, .int .i64 0, .int .i64 0, .bool false] 32)).cell? ⟨w2.heap.size, 0, none⟩ = some (.int .i64 (1 + x)) := var_cell _ _ _ _ _ rfl
    have e_1 : (w2.alloc (.cells #[.int .i64 (1 + x), .int .i64 0, .int .i64 0, .int .i64 0, .int .i64 0, .int .i64 0, .bool false] 32)).cell? ⟨w2.heap.size, 1, none⟩ = some (.int .i64 0) := var_cell _ _ _ _ _ rfl
    have e_2 : (w2.alloc (.cells #[.int .i64 (1 + x), .int .i64 0, .int .i64 0, .int .i64 0, .int .i64 0, .int .i64 0, .bool false] 32)).cell? ⟨w2.heap.size, 2, none⟩ = some (.int .i64 0) := var_cell _ _ _ _ _ rfl
    have e_3 : (w2.alloc (.cells #[.int .i64 (1 + x), .int .i64 0, .int .i64 0, .int .i64 0, .int .i64 0, .int .i64 0, .bool false] 32)).cell? ⟨w2.heap.size, 3, none⟩ = some (.int .i64 0) := var_cell _ _ _ _ _ rfl
    have e_4 : (w2.alloc (.cells #[.int .i64 (1 + x), .int .i64 0, .int .i64 0, .int .i64 0, .int .i64 0, .int .i64 0, .bool false] 32)).cell? ⟨w2.heap.size, 4, none⟩ = some (.int .i64 0) := var_cell _ _ _ _ _ rfl
    have e_5 : (w2.alloc (.cells #[.int .i64 (1 + x), .int .i64 0, .int .i64 0, .int .i64 0, .int .i64 0, .int .i64 0, .bool false] 32)).cell? ⟨w2.heap.size, 5, none⟩ = some (.int .i64 0) := var_cell _ _ _ _ _ rfl
    have e_6 : (w2.alloc (.cells #[.int .i64 (1 + x), .int .i64 0, .int .i64 0, .int .i64 0, .int .i64 0, .int .i64 0, .bool false] 32)).cell? ⟨w2.heap.size, 6, none⟩ = some (.bool false) := var_cell _ _ _ _ _ rfl
    have e_f0 : (w2.alloc (.cells #[.int .i64 (1 + x), .int .i64 0, .int .i64 0, .int .i64 0, .int .i64 0, .int .i64 0, .bool false] 32)).frozen? ⟨w2.heap.size, 0, none⟩ = false := var_frozen _ _ _ _
    have e_f1 : (w2.alloc (.cells #[.int .i64 (1 + x), .int .i64 0, .int .i64 0, .int .i64 0, .int .i64 0, .int .i64 0, .bool false] 32)).frozen? ⟨w2.heap.size, 1, none⟩ = false := var_frozen _ _ _ _
    have e_f2 : (w2.alloc (.cells #[.int .i64 (1 + x), .int .i64 0, .int .i64 0, .int .i64 0, .int .i64 0, .int .i64 0, .bool false] 32)).frozen? ⟨w2.heap.size, 2, none⟩ = false := var_frozen _ _ _ _
    have e_f3 : (w2.alloc (.cells #[.int .i64 (1 + x), .int .i64 0, .int .i64 0, .int .i64 0, .int .i64 0, .int .i64 0, .bool false] 32)).frozen? ⟨w2.heap.size, 3, none⟩ = false := var_frozen _ _ _ _
    have e_f4 : (w2.alloc (.cells #[.int .i64 (1 + x), .int .i64 0, .int .i64 0, .int .i64 0, .int .i64 0, .int .i64 0, .bool false] 32)).frozen? ⟨w2.heap.size, 4, none⟩ = false := var_frozen _ _ _ _
    have e_f5 : (w2.alloc (.cells #[.int .i64 (1 + x), .int .i64 0, .int .i64 0, .int .i64 0, .int .i64 0, .int .i64 0, .bool false] 32)).frozen? ⟨w2.heap.size, 5, none⟩ = false := var_frozen _ _ _ _
    have e_f6 : (w2.alloc (.cells #[.int .i64 (1 + x), .int .i64 0, .int .i64 0, .int .i64 0, .int .i64 0, .int .i64 0, .bool false] 32)).frozen? ⟨w2.heap.size, 6, none⟩ = false := var_frozen _ _ _ _
    generalize (w2.alloc (.cells #[.int .i64 (1 + x), .int .i64 0, .int .i64 0, .int .i64 0, .int .i64 0, .int .i64 0, .bool false] 32)) = w3 at *
    have hz3 : w2.heap.size ≤ w3.heap.size := he3.size
    have E3 : Eff g (g + 1) W w3 := E2.step he3 (by omega)
    have S3 := E3.size
    replace zr := zr.keep he3 (by omega)
    replace res_l := Nat.lt_of_lt_of_le res_l hz3
    replace hc := hc.keep he3 (by omega) (by omega)
    have e_l : w2.heap.size < w3.heap.size := (by omega)
    have hVH : w2.heap.size < w3.heap.size := by omega
    clear hs3
    refine (l04HasC (1 + x) q0 q1 w3.heap.size w3 rfl).mono ?_
    rintro e w4 ⟨rfl, h_0, h_1, h_2, h_3, h_4, h_5, he⟩
    rw [HP.out] at h_0 h_1 h_2 h_3 h_4 h_5
    have he4 : Eff (0) (0) w3 w4 := he
    have hz4 : w3.heap.size ≤ w4.heap.size := he4.size
    have E4 : Eff g (g + 1) W w4 := E3.step he4 (by omega)
    have S4 := E4.size
    replace zr := zr.keep he4 (by omega)
    replace e_f0 := (he4.frozen e_0 (by simp only; omega)).trans e_f0
    replace e_f1 := (he4.frozen e_1 (by simp only; omega)).trans e_f1
    replace e_f2 := (he4.frozen e_2 (by simp only; omega)).trans e_f2
    replace e_f3 := (he4.frozen e_3 (by simp only; omega)).trans e_f3
    replace e_f4 := (he4.frozen e_4 (by simp only; omega)).trans e_f4
    replace e_f5 := (he4.frozen e_5 (by simp only; omega)).trans e_f5
    replace e_f6 := (he4.frozen e_6 (by simp only; omega)).trans e_f6
    replace e_0 := he4.cell e_0 (by simp only; omega)
    replace e_1 := he4.cell e_1 (by simp only; omega)
    replace e_2 := he4.cell e_2 (by simp only; omega)
    replace e_3 := he4.cell e_3 (by simp only; omega)
    replace e_4 := he4.cell e_4 (by simp only; omega)
    replace e_5 := he4.cell e_5 (by simp only; omega)
    replace e_6 := he4.cell e_6 (by simp only; omega)
    replace res_l := Nat.lt_of_lt_of_le res_l hz4
    replace e_l := Nat.lt_of_lt_of_le e_l hz4
    replace hc := hc.keep he4 (by omega) (by omega)
    clear he
    have h_l : w3.heap.size < w4.heap.size := World.block_lt_of_cell? _ _ h_0
    go_wp2_with fail
    refine (l01Below_any B g (6) (by omega) w4 hc).mono ?_
    rintro e w5 hpost
    obtain ⟨a, rfl, ⟨a_0, a_1, -⟩, hc, he⟩ := hpost.eff
    clear hpost
    replace a_1 := a_1 (by omega)
    have he5 : Eff (g) (g + 1) w4 w5 := he
    have hz5 : w4.heap.size ≤ w5.heap.size := he5.size
    have E5 : Eff g (g + 1) W w5 := E4.step he5 (by omega)
    have S5 := E5.size
    replace zr := zr.keep he5 (by omega)
    replace e_f0 := (he5.frozen e_0 (by simp only; omega)).trans e_f0
    replace e_f1 := (he5.frozen e_1 (by simp only; omega)).trans e_f1
    replace e_f2 := (he5.frozen e_2 (by simp only; omega)).trans e_f2
    replace e_f3 := (he5.frozen e_3 (by simp only; omega)).trans e_f3
    replace e_f4 := (he5.frozen e_4 (by simp only; omega)).trans e_f4
    replace e_f5 := (he5.frozen e_5 (by simp only; omega)).trans e_f5
    replace e_f6 := (he5.frozen e_6 (by simp only; omega)).trans e_f6
    replace e_0 := he5.cell e_0 (by simp only; omega)
    replace e_1 := he5.cell e_1 (by simp only; omega)
    replace e_2 := he5.cell e_2 (by simp only; omega)
    replace e_3 := he5.cell e_3 (by simp only; omega)
    replace e_4 := he5.cell e_4 (by simp only; omega)
    replace e_5 := he5.cell e_5 (by simp only; omega)
    replace e_6 := he5.cell e_6 (by simp only; omega)
    replace h_0 := he5.cell h_0 (by simp only; omega)
    replace h_1 := he5.cell h_1 (by simp only; omega)
    replace h_2 := he5.cell h_2 (by simp only; omega)
    replace h_3 := he5.cell h_3 (by simp only; omega)
    replace h_4 := he5.cell h_4 (by simp only; omega)
    replace h_5 := he5.cell h_5 (by simp only; omega)
    replace res_l := Nat.lt_of_lt_of_le res_l hz5
    replace e_l := Nat.lt_of_lt_of_le e_l hz5
    clear he
    go_upto_region 6 with fail
    clear h_0
    have he6 : Eff (w2.heap.size) (w2.heap.size + 1) w5 (w5.setCell ⟨w2.heap.size, 1, none⟩ (.int .i64 (1 + a))) := eff_set _ _ _ _
    replace e_f0 := set_frozen (p := ⟨w2.heap.size, 1, none⟩) e_f0 (.int .i64 (1 + a))
    replace e_f1 := set_frozen (p := ⟨w2.heap.size, 1, none⟩) e_f1 (.int .i64 (1 + a))
    replace e_f2 := set_frozen (p := ⟨w2.heap.size, 1, none⟩) e_f2 (.int .i64 (1 + a))
    replace e_f3 := set_frozen (p := ⟨w2.heap.size, 1, none⟩) e_f3 (.int .i64 (1 + a))
    replace e_f4 := set_frozen (p := ⟨w2.heap.size, 1, none⟩) e_f4 (.int .i64 (1 + a))
    replace e_f5 := set_frozen (p := ⟨w2.heap.size, 1, none⟩) e_f5 (.int .i64 (1 + a))
    replace e_f6 := set_frozen (p := ⟨w2.heap.size, 1, none⟩) e_f6 (.int .i64 (1 + a))
    replace e_0 := set_other (b' := w2.heap.size) (o' := 1) e_0 (.int .i64 (1 + a)) (.inr (by omega))
    replace e_1 := set_same e_1 (.int .i64 (1 + a))
    replace e_2 := set_other (b' := w2.heap.size) (o' := 1) e_2 (.int .i64 (1 + a)) (.inr (by omega))
    replace e_3 := set_other (b' := w2.heap.size) (o' := 1) e_3 (.int .i64 (1 + a)) (.inr (by omega))
    replace e_4 := set_other (b' := w2.heap.size) (o' := 1) e_4 (.int .i64 (1 + a)) (.inr (by omega))
    replace e_5 := set_other (b' := w2.heap.size) (o' := 1) e_5 (.int .i64 (1 + a)) (.inr (by omega))
    replace e_6 := set_other (b' := w2.heap.size) (o' := 1) e_6 (.int .i64 (1 + a)) (.inr (by omega))
    replace h_1 := he6.cell h_1 (by simp only; omega)
    replace h_2 := he6.cell h_2 (by simp only; omega)
    replace h_3 := he6.cell h_3 (by simp only; omega)
    replace h_4 := he6.cell h_4 (by simp only; omega)
    replace h_5 := he6.cell h_5 (by simp only; omega)
    have hz6 : w5.heap.size ≤ (w5.setCell ⟨w2.heap.size, 1, none⟩ (.int .i64 (1 + a))).heap.size := he6.size
    generalize (w5.setCell ⟨w2.heap.size, 1, none⟩ (.int .i64 (1 + a))) = w6 at *
    have E6 : Eff g (g + 1) W w6 := E5.step he6 (by omega)
    have S6 := E6.size
    replace zr := zr.keep he6 (by omega)
    replace res_l := Nat.lt_of_lt_of_le res_l hz6
    replace e_l := Nat.lt_of_lt_of_le e_l hz6
    replace hc := hc.keep he6 (by omega) (by omega)
    go_upto_region 15 with fail
    clear h_1
    clear h_2
    clear h_4
    clear h_5
    have he7 : Eff (w2.heap.size) (w2.heap.size + 1) w6 (w6.setCell ⟨w2.heap.size, 6, none⟩ (.bool false)) := eff_set _ _ _ _
    replace e_f0 := set_frozen (p := ⟨w2.heap.size, 6, none⟩) e_f0 (.bool false)
    replace e_f1 := set_frozen (p := ⟨w2.heap.size, 6, none⟩) e_f1 (.bool false)
    replace e_f2 := set_frozen (p := ⟨w2.heap.size, 6, none⟩) e_f2 (.bool false)
    replace e_f3 := set_frozen (p := ⟨w2.heap.size, 6, none⟩) e_f3 (.bool false)
    replace e_f4 := set_frozen (p := ⟨w2.heap.size, 6, none⟩) e_f4 (.bool false)
    replace e_f5 := set_frozen (p := ⟨w2.heap.size, 6, none⟩) e_f5 (.bool false)
    replace e_f6 := set_frozen (p := ⟨w2.heap.size, 6, none⟩) e_f6 (.bool false)
    replace e_0 := set_other (b' := w2.heap.size) (o' := 6) e_0 (.bool false) (.inr (by omega))
    replace e_1 := set_other (b' := w2.heap.size) (o' := 6) e_1 (.bool false) (.inr (by omega))
    replace e_2 := set_other (b' := w2.heap.size) (o' := 6) e_2 (.bool false) (.inr (by omega))
    replace e_3 := set_other (b' := w2.heap.size) (o' := 6) e_3 (.bool false) (.inr (by omega))
    replace e_4 := set_other (b' := w2.heap.size) (o' := 6) e_4 (.bool false) (.inr (by omega))
    replace e_5 := set_other (b' := w2.heap.size) (o' := 6) e_5 (.bool false) (.inr (by omega))
    replace e_6 := set_same e_6 (.bool false)
    replace h_3 := he7.cell h_3 (by simp only; omega)
    have hz7 : w6.heap.size ≤ (w6.setCell ⟨w2.heap.size, 6, none⟩ (.bool false)).heap.size := he7.size
    generalize (w6.setCell ⟨w2.heap.size, 6, none⟩ (.bool false)) = w7 at *
    have E7 : Eff g (g + 1) W w7 := E6.step he7 (by omega)
    have S7 := E7.size
    replace zr := zr.keep he7 (by omega)
    replace res_l := Nat.lt_of_lt_of_le res_l hz7
    replace e_l := Nat.lt_of_lt_of_le e_l hz7
    replace hc := hc.keep he7 (by omega) (by omega)
    go_wp2_with fail
    refine (l01Below_any B g (14) (by omega) w7 hc).mono ?_
    rintro e w8 hpost
    obtain ⟨q, rfl, ⟨q_0, q_1, -⟩, hc, he⟩ := hpost.eff
    clear hpost
    replace q_1 := q_1 (by omega)
    have he8 : Eff (g) (g + 1) w7 w8 := he
    have hz8 : w7.heap.size ≤ w8.heap.size := he8.size
    have E8 : Eff g (g + 1) W w8 := E7.step he8 (by omega)
    have S8 := E8.size
    replace zr := zr.keep he8 (by omega)
    replace e_f0 := (he8.frozen e_0 (by simp only; omega)).trans e_f0
    replace e_f1 := (he8.frozen e_1 (by simp only; omega)).trans e_f1
    replace e_f2 := (he8.frozen e_2 (by simp only; omega)).trans e_f2
    replace e_f3 := (he8.frozen e_3 (by simp only; omega)).trans e_f3
    replace e_f4 := (he8.frozen e_4 (by simp only; omega)).trans e_f4
    replace e_f5 := (he8.frozen e_5 (by simp only; omega)).trans e_f5
    replace e_f6 := (he8.frozen e_6 (by simp only; omega)).trans e_f6
    replace e_0 := he8.cell e_0 (by simp only; omega)
    replace e_1 := he8.cell e_1 (by simp only; omega)
    replace e_2 := he8.cell e_2 (by simp only; omega)
    replace e_3 := he8.cell e_3 (by simp only; omega)
    replace e_4 := he8.cell e_4 (by simp only; omega)
    replace e_5 := he8.cell e_5 (by simp only; omega)
    replace e_6 := he8.cell e_6 (by simp only; omega)
    replace h_3 := he8.cell h_3 (by simp only; omega)
    replace res_l := Nat.lt_of_lt_of_le res_l hz8
    replace e_l := Nat.lt_of_lt_of_le e_l hz8
    clear he
    by_cases hq : q = 0
    · skip
      subst hq
      obtain ⟨res_0, res_1, res_2, res_3, res_4, res_5, res_6, res_f0, res_f1, res_f2, res_f3, res_f4, res_f5, res_f6⟩ := zr
      go_wp2_with fail
      have r0 : (((((((w8.setCell ⟨W.heap.size, 0, none⟩ (.int .i64 (1 + x))).setCell ⟨W.heap.size, 1, none⟩ (.int .i64 (1 + a))).setCell ⟨W.heap.size, 2, none⟩ (.int .i64 0)).setCell ⟨W.heap.size, 3, none⟩ (.int .i64 0)).setCell ⟨W.heap.size, 4, none⟩ (.int .i64 0)).setCell ⟨W.heap.size, 5, none⟩ (.int .i64 0)).setCell ⟨W.heap.size, 6, none⟩ (.bool false)).cell? ⟨W.heap.size, 0, none⟩ = some (.int .i64 (1 + x)) := set_other (set_other (set_other (set_other (set_other (set_other (set_same (res_0) _) _ (.inr (by omega))) _ (.inr (by omega))) _ (.inr (by omega))) _ (.inr (by omega))) _ (.inr (by omega))) _ (.inr (by omega))
      have r1 : (((((((w8.setCell ⟨W.heap.size, 0, none⟩ (.int .i64 (1 + x))).setCell ⟨W.heap.size, 1, none⟩ (.int .i64 (1 + a))).setCell ⟨W.heap.size, 2, none⟩ (.int .i64 0)).setCell ⟨W.heap.size, 3, none⟩ (.int .i64 0)).setCell ⟨W.heap.size, 4, none⟩ (.int .i64 0)).setCell ⟨W.heap.size, 5, none⟩ (.int .i64 0)).setCell ⟨W.heap.size, 6, none⟩ (.bool false)).cell? ⟨W.heap.size, 1, none⟩ = some (.int .i64 (1 + a)) := set_other (set_other (set_other (set_other (set_other (set_same (set_other (res_1) _ (.inr (by omega))) _) _ (.inr (by omega))) _ (.inr (by omega))) _ (.inr (by omega))) _ (.inr (by omega))) _ (.inr (by omega))
      have r2 : (((((((w8.setCell ⟨W.heap.size, 0, none⟩ (.int .i64 (1 + x))).setCell ⟨W.heap.size, 1, none⟩ (.int .i64 (1 + a))).setCell ⟨W.heap.size, 2, none⟩ (.int .i64 0)).setCell ⟨W.heap.size, 3, none⟩ (.int .i64 0)).setCell ⟨W.heap.size, 4, none⟩ (.int .i64 0)).setCell ⟨W.heap.size, 5, none⟩ (.int .i64 0)).setCell ⟨W.heap.size, 6, none⟩ (.bool false)).cell? ⟨W.heap.size, 2, none⟩ = some (.int .i64 0) := set_other (set_other (set_other (set_other (set_same (set_other (set_other (res_2) _ (.inr (by omega))) _ (.inr (by omega))) _) _ (.inr (by omega))) _ (.inr (by omega))) _ (.inr (by omega))) _ (.inr (by omega))
      have r3 : (((((((w8.setCell ⟨W.heap.size, 0, none⟩ (.int .i64 (1 + x))).setCell ⟨W.heap.size, 1, none⟩ (.int .i64 (1 + a))).setCell ⟨W.heap.size, 2, none⟩ (.int .i64 0)).setCell ⟨W.heap.size, 3, none⟩ (.int .i64 0)).setCell ⟨W.heap.size, 4, none⟩ (.int .i64 0)).setCell ⟨W.heap.size, 5, none⟩ (.int .i64 0)).setCell ⟨W.heap.size, 6, none⟩ (.bool false)).cell? ⟨W.heap.size, 3, none⟩ = some (.int .i64 0) := set_other (set_other (set_other (set_same (set_other (set_other (set_other (res_3) _ (.inr (by omega))) _ (.inr (by omega))) _ (.inr (by omega))) _) _ (.inr (by omega))) _ (.inr (by omega))) _ (.inr (by omega))
      have r4 : (((((((w8.setCell ⟨W.heap.size, 0, none⟩ (.int .i64 (1 + x))).setCell ⟨W.heap.size, 1, none⟩ (.int .i64 (1 + a))).setCell ⟨W.heap.size, 2, none⟩ (.int .i64 0)).setCell ⟨W.heap.size, 3, none⟩ (.int .i64 0)).setCell ⟨W.heap.size, 4, none⟩ (.int .i64 0)).setCell ⟨W.heap.size, 5, none⟩ (.int .i64 0)).setCell ⟨W.heap.size, 6, none⟩ (.bool false)).cell? ⟨W.heap.size, 4, none⟩ = some (.int .i64 0) := set_other (set_other (set_same (set_other (set_other (set_other (set_other (res_4) _ (.inr (by omega))) _ (.inr (by omega))) _ (.inr (by omega))) _ (.inr (by omega))) _) _ (.inr (by omega))) _ (.inr (by omega))
      have r5 : (((((((w8.setCell ⟨W.heap.size, 0, none⟩ (.int .i64 (1 + x))).setCell ⟨W.heap.size, 1, none⟩ (.int .i64 (1 + a))).setCell ⟨W.heap.size, 2, none⟩ (.int .i64 0)).setCell ⟨W.heap.size, 3, none⟩ (.int .i64 0)).setCell ⟨W.heap.size, 4, none⟩ (.int .i64 0)).setCell ⟨W.heap.size, 5, none⟩ (.int .i64 0)).setCell ⟨W.heap.size, 6, none⟩ (.bool false)).cell? ⟨W.heap.size, 5, none⟩ = some (.int .i64 0) := set_other (set_same (set_other (set_other (set_other (set_other (set_other (res_5) _ (.inr (by omega))) _ (.inr (by omega))) _ (.inr (by omega))) _ (.inr (by omega))) _ (.inr (by omega))) _) _ (.inr (by omega))
      have r6 : (((((((w8.setCell ⟨W.heap.size, 0, none⟩ (.int .i64 (1 + x))).setCell ⟨W.heap.size, 1, none⟩ (.int .i64 (1 + a))).setCell ⟨W.heap.size, 2, none⟩ (.int .i64 0)).setCell ⟨W.heap.size, 3, none⟩ (.int .i64 0)).setCell ⟨W.heap.size, 4, none⟩ (.int .i64 0)).setCell ⟨W.heap.size, 5, none⟩ (.int .i64 0)).setCell ⟨W.heap.size, 6, none⟩ (.bool false)).cell? ⟨W.heap.size, 6, none⟩ = some (.bool false) := set_same (set_other (set_other (set_other (set_other (set_other (set_other (res_6) _ (.inr (by omega))) _ (.inr (by omega))) _ (.inr (by omega))) _ (.inr (by omega))) _ (.inr (by omega))) _ (.inr (by omega))) _
      refine bodyPost_ret (v := .agg #[.int .i64 (1 + x), .int .i64 (1 + a), .int .i64 0, .int .i64 0, .int .i64 0, .int .i64 0, .bool false]) (by simp [results, Tryd.results63, go_sem, r0, r1, r2, r3, r4, r5, r6]) rfl ?_
      exact EvPost.mk E8 hc (eff_set7 _ _ _ _ _ _ _ _ _) (by omega) (by omega)
    · skip
      have hq0 : (q == 0) = false := by simp; omega
      obtain ⟨res_0, res_1, res_2, res_3, res_4, res_5, res_6, res_f0, res_f1, res_f2, res_f3, res_f4, res_f5, res_f6⟩ := zr
      go_wp2_with fail
      have r0 : (((((((w8.setCell ⟨W.heap.size, 0, none⟩ (.int .i64 (1 + x))).setCell ⟨W.heap.size, 1, none⟩ (.int .i64 (1 + a))).setCell ⟨W.heap.size, 2, none⟩ (.int .i64 0)).setCell ⟨W.heap.size, 3, none⟩ (.int .i64 0)).setCell ⟨W.heap.size, 4, none⟩ (.int .i64 0)).setCell ⟨W.heap.size, 5, none⟩ (.int .i64 0)).setCell ⟨W.heap.size, 6, none⟩ (.bool false)).cell? ⟨W.heap.size, 0, none⟩ = some (.int .i64 (1 + x)) := set_other (set_other (set_other (set_other (set_other (set_other (set_same (res_0) _) _ (.inr (by omega))) _ (.inr (by omega))) _ (.inr (by omega))) _ (.inr (by omega))) _ (.inr (by omega))) _ (.inr (by omega))
      have r1 : (((((((w8.setCell ⟨W.heap.size, 0, none⟩ (.int .i64 (1 + x))).setCell ⟨W.heap.size, 1, none⟩ (.int .i64 (1 + a))).setCell ⟨W.heap.size, 2, none⟩ (.int .i64 0)).setCell ⟨W.heap.size, 3, none⟩ (.int .i64 0)).setCell ⟨W.heap.size, 4, none⟩ (.int .i64 0)).setCell ⟨W.heap.size, 5, none⟩ (.int .i64 0)).setCell ⟨W.heap.size, 6, none⟩ (.bool false)).cell? ⟨W.heap.size, 1, none⟩ = some (.int .i64 (1 + a)) := set_other (set_other (set_other (set_other (set_other (set_same (set_other (res_1) _ (.inr (by omega))) _) _ (.inr (by omega))) _ (.inr (by omega))) _ (.inr (by omega))) _ (.inr (by omega))) _ (.inr (by omega))
      have r2 : (((((((w8.setCell ⟨W.heap.size, 0, none⟩ (.int .i64 (1 + x))).setCell ⟨W.heap.size, 1, none⟩ (.int .i64 (1 + a))).setCell ⟨W.heap.size, 2, none⟩ (.int .i64 0)).setCell ⟨W.heap.size, 3, none⟩ (.int .i64 0)).setCell ⟨W.heap.size, 4, none⟩ (.int .i64 0)).setCell ⟨W.heap.size, 5, none⟩ (.int .i64 0)).setCell ⟨W.heap.size, 6, none⟩ (.bool false)).cell? ⟨W.heap.size, 2, none⟩ = some (.int .i64 0) := set_other (set_other (set_other (set_other (set_same (set_other (set_other (res_2) _ (.inr (by omega))) _ (.inr (by omega))) _) _ (.inr (by omega))) _ (.inr (by omega))) _ (.inr (by omega))) _ (.inr (by omega))
      have r3 : (((((((w8.setCell ⟨W.heap.size, 0, none⟩ (.int .i64 (1 + x))).setCell ⟨W.heap.size, 1, none⟩ (.int .i64 (1 + a))).setCell ⟨W.heap.size, 2, none⟩ (.int .i64 0)).setCell ⟨W.heap.size, 3, none⟩ (.int .i64 0)).setCell ⟨W.heap.size, 4, none⟩ (.int .i64 0)).setCell ⟨W.heap.size, 5, none⟩ (.int .i64 0)).setCell ⟨W.heap.size, 6, none⟩ (.bool false)).cell? ⟨W.heap.size, 3, none⟩ = some (.int .i64 0) := set_other (set_other (set_other (set_same (set_other (set_other (set_other (res_3) _ (.inr (by omega))) _ (.inr (by omega))) _ (.inr (by omega))) _) _ (.inr (by omega))) _ (.inr (by omega))) _ (.inr (by omega))
      have r4 : (((((((w8.setCell ⟨W.heap.size, 0, none⟩ (.int .i64 (1 + x))).setCell ⟨W.heap.size, 1, none⟩ (.int .i64 (1 + a))).setCell ⟨W.heap.size, 2, none⟩ (.int .i64 0)).setCell ⟨W.heap.size, 3, none⟩ (.int .i64 0)).setCell ⟨W.heap.size, 4, none⟩ (.int .i64 0)).setCell ⟨W.heap.size, 5, none⟩ (.int .i64 0)).setCell ⟨W.heap.size, 6, none⟩ (.bool false)).cell? ⟨W.heap.size, 4, none⟩ = some (.int .i64 0) := set_other (set_other (set_same (set_other (set_other (set_other (set_other (res_4) _ (.inr (by omega))) _ (.inr (by omega))) _ (.inr (by omega))) _ (.inr (by omega))) _) _ (.inr (by omega))) _ (.inr (by omega))
      have r5 : (((((((w8.setCell ⟨W.heap.size, 0, none⟩ (.int .i64 (1 + x))).setCell ⟨W.heap.size, 1, none⟩ (.int .i64 (1 + a))).setCell ⟨W.heap.size, 2, none⟩ (.int .i64 0)).setCell ⟨W.heap.size, 3, none⟩ (.int .i64 0)).setCell ⟨W.heap.size, 4, none⟩ (.int .i64 0)).setCell ⟨W.heap.size, 5, none⟩ (.int .i64 0)).setCell ⟨W.heap.size, 6, none⟩ (.bool false)).cell? ⟨W.heap.size, 5, none⟩ = some (.int .i64 0) := set_other (set_same (set_other (set_other (set_other (set_other (set_other (res_5) _ (.inr (by omega))) _ (.inr (by omega))) _ (.inr (by omega))) _ (.inr (by omega))) _ (.inr (by omega))) _) _ (.inr (by omega))
      have r6 : (((((((w8.setCell ⟨W.heap.size, 0, none⟩ (.int .i64 (1 + x))).setCell ⟨W.heap.size, 1, none⟩ (.int .i64 (1 + a))).setCell ⟨W.heap.size, 2, none⟩ (.int .i64 0)).setCell ⟨W.heap.size, 3, none⟩ (.int .i64 0)).setCell ⟨W.heap.size, 4, none⟩ (.int .i64 0)).setCell ⟨W.heap.size, 5, none⟩ (.int .i64 0)).setCell ⟨W.heap.size, 6, none⟩ (.bool false)).cell? ⟨W.heap.size, 6, none⟩ = some (.bool false) := set_same (set_other (set_other (set_other (set_other (set_other (set_other (res_6) _ (.inr (by omega))) _ (.inr (by omega))) _ (.inr (by omega))) _ (.inr (by omega))) _ (.inr (by omega))) _ (.inr (by omega))) _
      refine bodyPost_ret (v := .agg #[.int .i64 (1 + x), .int .i64 (1 + a), .int .i64 0, .int .i64 0, .int .i64 0, .int .i64 0, .bool false]) (by simp [results, Tryd.results63, go_sem, r0, r1, r2, r3, r4, r5, r6]) rfl ?_
      exact EvPost.mk E8 hc (eff_set7 _ _ _ _ _ _ _ _ _) (by omega) (by omega)
end Go.Proofs.YtnjdmmdbminmoaaDoor
