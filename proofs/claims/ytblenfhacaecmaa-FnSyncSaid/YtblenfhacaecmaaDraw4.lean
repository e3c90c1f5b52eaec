/- Draws of sectors (l03Sector, l03Any). -/
import Derived.Test.YtblenfhacaecmaaDraw3
import Derived.Test.YtblenfhacaecmaaApp
namespace Go.Proofs.Ytblenfhacaecmaa
open Go.RowKit
/-- A sector whose bytes are the call's own, in the bounds of the property. -/
def SecPost (B g : Nat) (p : Int → Int → Nat → Prop) (w : World) (e : Ending) (w' : World) : Prop :=
  ∃ (q o : Int) (A : Option Addr) (n c : Nat) (l : List UInt8), e = .returned (.agg #[.int .i64 q, .int .i64 o, .slice A n c]) ∧ p q o n ∧ Cur B w' g ∧ OwnB w' w.heap.size w'.heap.size A n c l ∧ Eff g (g + 1) w w'
theorem eff_set3 (w : World) (b : Nat) (u0 u1 u2 : Value) : Eff b (b + 1) w (((w.setCell ⟨b, 0, none⟩ u0).setCell ⟨b, 1, none⟩ u1).setCell ⟨b, 2, none⟩ u2) :=
  (((Eff.refl _ _ _).setCell (Nat.le_refl b) (Nat.lt_succ_self b) u0).setCell (Nat.le_refl b) (Nat.lt_succ_self b) u1).setCell (Nat.le_refl b) (Nat.lt_succ_self b) u2
theorem SecPost.mk {B g b lo hi n c : Nat} {p : Int → Int → Nat → Prop} {w w1 w2 : World} {q o : Int} {A : Option Addr} {l : List UInt8} (hp : p q o n) (E : Eff g (g + 1) w w1) (hc : Cur B w1 g) (ho : OwnB w1 lo hi A n c l) (he : Eff b (b + 1) w1 w2)
    (h1 : w.heap.size ≤ lo) (h2 : b + 1 ≤ lo) (h3 : w.heap.size ≤ b) (h4 : B ≤ g ∧ g < w.heap.size) : SecPost B g p w (.returned (.agg #[.int .i64 q, .int .i64 o, .slice A n c])) w2 :=
  ⟨q, o, A, n, c, l, rfl, hp, hc.keep he (by omega) (by omega), ho.made he (by omega) h1, E.step he (by omega)⟩
set_option maxHeartbeats 1000000 in
set_option maxRecDepth 100000 in
theorem l03Sector_any (B g : Nat) (W : World) (hc : Cur B W g) : Calls Try.prog 87 #[.pointer (some ⟨g, 0, none⟩)] W (SecPost B g (fun q o n => 0 ≤ q ∧ q ≤ 599 ∧ 1 ≤ o ∧ o ≤ 16000000 ∧ n ≤ 100) W) := by
  have hgl := hc.lt
  have hgB := hc.le
  have E0 : Eff g (g + 1) W W := Eff.refl _ _ _
  go_enter Try.func87, Try.ntmps87
  go_wp2_with fail
  have he1 : Eff 0 0 W (W.alloc (.cells #[.int .i64 0, .int .i64 0, .slice none 0 0] 91)) := Eff.alloc _ _
  have hs1 : (W.alloc (.cells #[.int .i64 0, .int .i64 0, .slice none 0 0] 91)).heap.size = W.heap.size + 1 := (by simp)
  have res_0 : (W.alloc (.cells #[.int .i64 0, .int .i64 0, .slice none 0 0] 91)).cell? ⟨W.heap.size, 0, none⟩ = some (.int .i64 0) := var_cell _ _ _ _ _ rfl
  have res_1 : (W.alloc (.cells #[.int .i64 0, .int .i64 0, .slice none 0 0] 91)).cell? ⟨W.heap.size, 1, none⟩ = some (.int .i64 0) := var_cell _ _ _ _ _ rfl
  have res_2 : (W.alloc (.cells #[.int .i64 0, .int .i64 0, .slice none 0 0] 91)).cell? ⟨W.heap.size, 2, none⟩ = some (.slice none 0 0) := var_cell _ _ _ _ _ rfl
  have res_f0 : (W.alloc (.cells #[.int .i64 0, .int .i64 0, .slice none 0 0] 91)).frozen? ⟨W.heap.size, 0, none⟩ = false := var_frozen _ _ _ _
  have res_f1 : (W.alloc (.cells #[.int .i64 0, .int .i64 0, .slice none 0 0] 91)).frozen? ⟨W.heap.size, 1, none⟩ = false := var_frozen _ _ _ _
  have res_f2 : (W.alloc (.cells #[.int .i64 0, .int .i64 0, .slice none 0 0] 91)).frozen? ⟨W.heap.size, 2, none⟩ = false := var_frozen _ _ _ _
  generalize (W.alloc (.cells #[.int .i64 0, .int .i64 0, .slice none 0 0] 91)) = w1 at *
  have hz1 : W.heap.size ≤ w1.heap.size := he1.size
  have E1 : Eff g (g + 1) W w1 := E0.step he1 (by omega)
  have S1 := E1.size
  replace hc := hc.keep he1 (by omega) (by omega)
  have res_l : W.heap.size < w1.heap.size := (by omega)
  refine (l01Below_any B g (5) (by omega) w1 hc).mono ?_
  rintro e w2 hpost
  obtain ⟨q, rfl, ⟨q_0, q_1, -⟩, hc, he⟩ := hpost.eff
  clear hpost
  replace q_1 := q_1 (by omega)
  have he2 : Eff (g) (g + 1) w1 w2 := he
  have hz2 : w1.heap.size ≤ w2.heap.size := he2.size
  have E2 : Eff g (g + 1) W w2 := E1.step he2 (by omega)
  have S2 := E2.size
  replace res_f0 := (he2.frozen res_0 (by simp only; omega)).trans res_f0
  replace res_f1 := (he2.frozen res_1 (by simp only; omega)).trans res_f1
  replace res_f2 := (he2.frozen res_2 (by simp only; omega)).trans res_f2
  replace res_0 := he2.cell res_0 (by simp only; omega)
  replace res_1 := he2.cell res_1 (by simp only; omega)
  replace res_2 := he2.cell res_2 (by simp only; omega)
  replace res_l := Nat.lt_of_lt_of_le res_l hz2
  clear he
  go_wp2_with fail
  refine (l01Below_any B g (3) (by omega) w2 hc).mono ?_
  rintro e w3 hpost
  obtain ⟨p, rfl, ⟨p_0, p_1, -⟩, hc, he⟩ := hpost.eff
  clear hpost
  replace p_1 := p_1 (by omega)
  have he3 : Eff (g) (g + 1) w2 w3 := he
  have hz3 : w2.heap.size ≤ w3.heap.size := he3.size
  have E3 : Eff g (g + 1) W w3 := E2.step he3 (by omega)
  have S3 := E3.size
  replace res_f0 := (he3.frozen res_0 (by simp only; omega)).trans res_f0
  replace res_f1 := (he3.frozen res_1 (by simp only; omega)).trans res_f1
  replace res_f2 := (he3.frozen res_2 (by simp only; omega)).trans res_f2
  replace res_0 := he3.cell res_0 (by simp only; omega)
  replace res_1 := he3.cell res_1 (by simp only; omega)
  replace res_2 := he3.cell res_2 (by simp only; omega)
  replace res_l := Nat.lt_of_lt_of_le res_l hz3
  clear he
  go_wp2_with fail
  refine (l03Bytes_any B g (12) (by omega) (by omega) w3 hc).mono ?_
  rintro e w4 hpost
  obtain ⟨Ay, ny, cy, ly, rfl, my, hc, y, he⟩ := hpost
  have he4 : Eff (g) (g + 1) w3 w4 := he
  have hz4 : w3.heap.size ≤ w4.heap.size := he4.size
  have E4 : Eff g (g + 1) W w4 := E3.step he4 (by omega)
  have S4 := E4.size
  replace res_f0 := (he4.frozen res_0 (by simp only; omega)).trans res_f0
  replace res_f1 := (he4.frozen res_1 (by simp only; omega)).trans res_f1
  replace res_f2 := (he4.frozen res_2 (by simp only; omega)).trans res_f2
  replace res_0 := he4.cell res_0 (by simp only; omega)
  replace res_1 := he4.cell res_1 (by simp only; omega)
  replace res_2 := he4.cell res_2 (by simp only; omega)
  replace res_l := Nat.lt_of_lt_of_le res_l hz4
  clear he
  go_wp2_with fail
  have he5 : Eff 0 0 w4 (w4.alloc (.cells #[.int .i64 q, .int .i64 (1 + p), .slice Ay ny cy] 91)) := Eff.alloc _ _
  have hs5 : (w4.alloc (.cells #[.int .i64 q, .int .i64 (1 + p), .slice Ay ny cy] 91)).heap.size = w4.heap.size + 1 := (by simp)
  have s_0 : (w4.alloc (.cells #[.int .i64 q, .int .i64 (1 + p), .slice Ay ny cy] 91)).cell? ⟨w4.heap.size, 0, none⟩ = some (.int .i64 q) := var_cell _ _ _ _ _ rfl
  have s_1 : (w4.alloc (.cells #[.int .i64 q, .int .i64 (1 + p), .slice Ay ny cy] 91)).cell? ⟨w4.heap.size, 1, none⟩ = some (.int .i64 (1 + p)) := var_cell _ _ _ _ _ rfl
  have s_2 : (w4.alloc (.cells #[.int .i64 q, .int .i64 (1 + p), .slice Ay ny cy] 91)).cell? ⟨w4.heap.size, 2, none⟩ = some (.slice Ay ny cy) := var_cell _ _ _ _ _ rfl
  have s_f0 : (w4.alloc (.cells #[.int .i64 q, .int .i64 (1 + p), .slice Ay ny cy] 91)).frozen? ⟨w4.heap.size, 0, none⟩ = false := var_frozen _ _ _ _
  have s_f1 : (w4.alloc (.cells #[.int .i64 q, .int .i64 (1 + p), .slice Ay ny cy] 91)).frozen? ⟨w4.heap.size, 1, none⟩ = false := var_frozen _ _ _ _
  have s_f2 : (w4.alloc (.cells #[.int .i64 q, .int .i64 (1 + p), .slice Ay ny cy] 91)).frozen? ⟨w4.heap.size, 2, none⟩ = false := var_frozen _ _ _ _
  generalize (w4.alloc (.cells #[.int .i64 q, .int .i64 (1 + p), .slice Ay ny cy] 91)) = w5 at *
  have hz5 : w4.heap.size ≤ w5.heap.size := he5.size
  have E5 : Eff g (g + 1) W w5 := E4.step he5 (by omega)
  have S5 := E5.size
  replace y := y.keep he5 (by omega)
  replace res_f0 := (he5.frozen res_0 (by simp only; omega)).trans res_f0
  replace res_f1 := (he5.frozen res_1 (by simp only; omega)).trans res_f1
  replace res_f2 := (he5.frozen res_2 (by simp only; omega)).trans res_f2
  replace res_0 := he5.cell res_0 (by simp only; omega)
  replace res_1 := he5.cell res_1 (by simp only; omega)
  replace res_2 := he5.cell res_2 (by simp only; omega)
  replace res_l := Nat.lt_of_lt_of_le res_l hz5
  replace hc := hc.keep he5 (by omega) (by omega)
  have s_l : w4.heap.size < w5.heap.size := (by omega)
  refine (l01Below_any B g (12) (by omega) w5 hc).mono ?_
  rintro e w6 hpost
  obtain ⟨k, rfl, ⟨k_0, k_1, -⟩, hc, he⟩ := hpost.eff
  clear hpost
  replace k_1 := k_1 (by omega)
  have he6 : Eff (g) (g + 1) w5 w6 := he
  have hz6 : w5.heap.size ≤ w6.heap.size := he6.size
  have E6 : Eff g (g + 1) W w6 := E5.step he6 (by omega)
  have S6 := E6.size
  replace y := y.keep he6 (by omega)
  replace res_f0 := (he6.frozen res_0 (by simp only; omega)).trans res_f0
  replace res_f1 := (he6.frozen res_1 (by simp only; omega)).trans res_f1
  replace res_f2 := (he6.frozen res_2 (by simp only; omega)).trans res_f2
  replace s_f0 := (he6.frozen s_0 (by simp only; omega)).trans s_f0
  replace s_f1 := (he6.frozen s_1 (by simp only; omega)).trans s_f1
  replace s_f2 := (he6.frozen s_2 (by simp only; omega)).trans s_f2
  replace res_0 := he6.cell res_0 (by simp only; omega)
  replace res_1 := he6.cell res_1 (by simp only; omega)
  replace res_2 := he6.cell res_2 (by simp only; omega)
  replace s_0 := he6.cell s_0 (by simp only; omega)
  replace s_1 := he6.cell s_1 (by simp only; omega)
  replace s_2 := he6.cell s_2 (by simp only; omega)
  replace res_l := Nat.lt_of_lt_of_le res_l hz6
  replace s_l := Nat.lt_of_lt_of_le s_l hz6
  clear he
  by_cases hk : k = 0
  · skip
    subst hk
    go_wp2_with fail
    refine (l03Bytes_any B g (100) (by omega) (by omega) w6 hc).mono ?_
    rintro e w7 hpost
    obtain ⟨Az, nz, cz, lz, rfl, mz, hc, z, he⟩ := hpost
    have he7 : Eff (g) (g + 1) w6 w7 := he
    have hz7 : w6.heap.size ≤ w7.heap.size := he7.size
    have E7 : Eff g (g + 1) W w7 := E6.step he7 (by omega)
    have S7 := E7.size
    replace y := y.keep he7 (by omega)
    replace res_f0 := (he7.frozen res_0 (by simp only; omega)).trans res_f0
    replace res_f1 := (he7.frozen res_1 (by simp only; omega)).trans res_f1
    replace res_f2 := (he7.frozen res_2 (by simp only; omega)).trans res_f2
    replace s_f0 := (he7.frozen s_0 (by simp only; omega)).trans s_f0
    replace s_f1 := (he7.frozen s_1 (by simp only; omega)).trans s_f1
    replace s_f2 := (he7.frozen s_2 (by simp only; omega)).trans s_f2
    replace res_0 := he7.cell res_0 (by simp only; omega)
    replace res_1 := he7.cell res_1 (by simp only; omega)
    replace res_2 := he7.cell res_2 (by simp only; omega)
    replace s_0 := he7.cell s_0 (by simp only; omega)
    replace s_1 := he7.cell s_1 (by simp only; omega)
    replace s_2 := he7.cell s_2 (by simp only; omega)
    replace res_l := Nat.lt_of_lt_of_le res_l hz7
    replace s_l := Nat.lt_of_lt_of_le s_l hz7
    clear he
    go_wp2
    refine bodyPost_ret (v := .agg #[.int .i64 q, .int .i64 (1 + p), .slice Az nz cz]) (by simp [results, Try.results87, go_sem, *]) rfl ?_
    have he8 : Eff (w4.heap.size) (w4.heap.size + 1) w7 (w7.setCell ⟨w4.heap.size, 2, none⟩ (.slice Az nz cz)) := eff_set _ _ _ _
    replace res_f0 := (he8.frozen res_0 (by simp only; omega)).trans res_f0
    replace res_f1 := (he8.frozen res_1 (by simp only; omega)).trans res_f1
    replace res_f2 := (he8.frozen res_2 (by simp only; omega)).trans res_f2
    replace s_f0 := set_frozen (p := ⟨w4.heap.size, 2, none⟩) s_f0 (.slice Az nz cz)
    replace s_f1 := set_frozen (p := ⟨w4.heap.size, 2, none⟩) s_f1 (.slice Az nz cz)
    replace s_f2 := set_frozen (p := ⟨w4.heap.size, 2, none⟩) s_f2 (.slice Az nz cz)
    replace res_0 := he8.cell res_0 (by simp only; omega)
    replace res_1 := he8.cell res_1 (by simp only; omega)
    replace res_2 := he8.cell res_2 (by simp only; omega)
    replace s_0 := set_other (b' := w4.heap.size) (o' := 2) s_0 (.slice Az nz cz) (.inr (by omega))
    replace s_1 := set_other (b' := w4.heap.size) (o' := 2) s_1 (.slice Az nz cz) (.inr (by omega))
    replace s_2 := set_same s_2 (.slice Az nz cz)
    have hz8 : w7.heap.size ≤ (w7.setCell ⟨w4.heap.size, 2, none⟩ (.slice Az nz cz)).heap.size := he8.size
    generalize (w7.setCell ⟨w4.heap.size, 2, none⟩ (.slice Az nz cz)) = w8 at *
    have E8 : Eff g (g + 1) W w8 := E7.step he8 (by omega)
    have S8 := E8.size
    replace y := y.keep he8 (by omega)
    replace z := z.keep he8 (by omega)
    replace res_l := Nat.lt_of_lt_of_le res_l hz8
    replace s_l := Nat.lt_of_lt_of_le s_l hz8
    replace hc := hc.keep he8 (by omega) (by omega)
    exact SecPost.mk (by omega) E8 hc (z) (eff_set3 _ _ _ _ _) (by omega) (by omega) (by omega) (by omega)
  · by_cases hk1 : k = 1
    · skip
      subst hk1
      go_wp2
      refine bodyPost_ret (v := .agg #[.int .i64 599, .int .i64 16000000, .slice Ay ny cy]) (by simp [results, Try.results87, go_sem, *]) rfl ?_
      have he7 : Eff (w4.heap.size) (w4.heap.size + 1) w6 (w6.setCell ⟨w4.heap.size, 0, none⟩ (.int .i64 599)) := eff_set _ _ _ _
      replace res_f0 := (he7.frozen res_0 (by simp only; omega)).trans res_f0
      replace res_f1 := (he7.frozen res_1 (by simp only; omega)).trans res_f1
      replace res_f2 := (he7.frozen res_2 (by simp only; omega)).trans res_f2
      replace s_f0 := set_frozen (p := ⟨w4.heap.size, 0, none⟩) s_f0 (.int .i64 599)
      replace s_f1 := set_frozen (p := ⟨w4.heap.size, 0, none⟩) s_f1 (.int .i64 599)
      replace s_f2 := set_frozen (p := ⟨w4.heap.size, 0, none⟩) s_f2 (.int .i64 599)
      replace res_0 := he7.cell res_0 (by simp only; omega)
      replace res_1 := he7.cell res_1 (by simp only; omega)
      replace res_2 := he7.cell res_2 (by simp only; omega)
      replace s_0 := set_same s_0 (.int .i64 599)
      replace s_1 := set_other (b' := w4.heap.size) (o' := 0) s_1 (.int .i64 599) (.inr (by omega))
      replace s_2 := set_other (b' := w4.heap.size) (o' := 0) s_2 (.int .i64 599) (.inr (by omega))
      have hz7 : w6.heap.size ≤ (w6.setCell ⟨w4.heap.size, 0, none⟩ (.int .i64 599)).heap.size := he7.size
      generalize (w6.setCell ⟨w4.heap.size, 0, none⟩ (.int .i64 599)) = w7 at *
      have E7 : Eff g (g + 1) W w7 := E6.step he7 (by omega)
      have S7 := E7.size
      replace y := y.keep he7 (by omega)
      replace res_l := Nat.lt_of_lt_of_le res_l hz7
      replace s_l := Nat.lt_of_lt_of_le s_l hz7
      replace hc := hc.keep he7 (by omega) (by omega)
      have he8 : Eff (w4.heap.size) (w4.heap.size + 1) w7 (w7.setCell ⟨w4.heap.size, 1, none⟩ (.int .i64 16000000)) := eff_set _ _ _ _
      replace res_f0 := (he8.frozen res_0 (by simp only; omega)).trans res_f0
      replace res_f1 := (he8.frozen res_1 (by simp only; omega)).trans res_f1
      replace res_f2 := (he8.frozen res_2 (by simp only; omega)).trans res_f2
      replace s_f0 := set_frozen (p := ⟨w4.heap.size, 1, none⟩) s_f0 (.int .i64 16000000)
      replace s_f1 := set_frozen (p := ⟨w4.heap.size, 1, none⟩) s_f1 (.int .i64 16000000)
      replace s_f2 := set_frozen (p := ⟨w4.heap.size, 1, none⟩) s_f2 (.int .i64 16000000)
      replace res_0 := he8.cell res_0 (by simp only; omega)
      replace res_1 := he8.cell res_1 (by simp only; omega)
      replace res_2 := he8.cell res_2 (by simp only; omega)
      replace s_0 := set_other (b' := w4.heap.size) (o' := 1) s_0 (.int .i64 16000000) (.inr (by omega))
      replace s_1 := set_same s_1 (.int .i64 16000000)
      replace s_2 := set_other (b' := w4.heap.size) (o' := 1) s_2 (.int .i64 16000000) (.inr (by omega))
      have hz8 : w7.heap.size ≤ (w7.setCell ⟨w4.heap.size, 1, none⟩ (.int .i64 16000000)).heap.size := he8.size
      generalize (w7.setCell ⟨w4.heap.size, 1, none⟩ (.int .i64 16000000)) = w8 at *
      have E8 : Eff g (g + 1) W w8 := E7.step he8 (by omega)
      have S8 := E8.size
      replace y := y.keep he8 (by omega)
      replace res_l := Nat.lt_of_lt_of_le res_l hz8
      replace s_l := Nat.lt_of_lt_of_le s_l hz8
      replace hc := hc.keep he8 (by omega) (by omega)
      exact SecPost.mk (by omega) E8 hc (y) (eff_set3 _ _ _ _ _) (by omega) (by omega) (by omega) (by omega)
    · skip
      have n0 : (k == 0) = false := by simp; omega
      have n1 : (k == 1) = false := by simp; omega
      go_wp2
      refine bodyPost_ret (v := .agg #[.int .i64 q, .int .i64 (1 + p), .slice Ay ny cy]) (by simp [results, Try.results87, go_sem, *]) rfl ?_
      exact SecPost.mk (by omega) E6 hc (y) (eff_set3 _ _ _ _ _) (by omega) (by omega) (by omega) (by omega)
theorem in64_of {x lo hi : Int} (h1 : lo ≤ x) (h2 : x < hi) (hl : -9223372036854775808 ≤ lo) (hh : hi ≤ 9223372036854775807) : in64 x := ⟨by omega, by omega⟩
theorem made_zeros {w : World} {lo n : Nat} {A : Option Addr} (h : w.ownsRow lo 5 1 (.slice A n n) n (madeCells (Value.int .u8 0).cells (n * 1)).toList) : OwnB w lo w.heap.size A n n (List.replicate n 0) := by
  have e : (madeCells (Value.int .u8 0).cells (n * 1)).toList = Lib.byteCells (List.replicate n 0) := by
    rw [byteCells_zeros]
    apply List.ext_getElem
    · simp [madeCells, zs]
    · intro k h1 h2
      simp [madeCells, zs, Value.cells, Nat.mod_one]
  rw [e] at h
  exact ⟨h, fun k hk => (h.lt k hk).2, Nat.le_refl _⟩
end Go.Proofs.Ytblenfhacaecmaa
