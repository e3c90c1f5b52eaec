/- TextEvent of the reference. -/
import Derived.Test.YtnjdmmdbminmoaaDoorTes1
import Derived.Deep.Cut
namespace Go.Proofs.YtnjdmmdbminmoaaDoor
open Go.RowKit
/-- How far the words are read behind i fields. -/
def atI (k : Int) (N i : Nat) : Nat := min (1 + cntH k (min i 5)) N
/-- Field o behind i rounds. -/
def vI (ps : List (List UInt8)) (k : Int) (i o : Nat) : Int := if o < i then vAt ps k o else 0
theorem at_start (k : Int) {N : Nat} (h : 1 ≤ N) : atI k N 0 = 1 := by simp [atI, cntH]; omega
theorem at_no {k : Int} {N i : Nat} (h : hasB k i = false) : atI k N (i + 1) = atI k N i := by
  unfold atI
  by_cases h5 : i < 5
  · rw [show min (i + 1) 5 = i + 1 by omega, show min i 5 = i by omega, cntH, h]; simp
  · rw [show min (i + 1) 5 = 5 by omega, show min i 5 = 5 by omega]
theorem at_five {k : Int} {N i : Nat} (h5 : 5 ≤ i) : atI k N (i + 1) = atI k N i := by
  unfold atI; rw [show min (i + 1) 5 = 5 by omega, show min i 5 = 5 by omega]
theorem at_yes {k : Int} {N i a : Nat} (h : hasB k i = true) (h5 : i < 5) (ha : atI k N i = a) (hl : a < N) : atI k N (i + 1) = a + 1 ∧ a = 1 + cntH k i := by
  unfold atI at ha ⊢
  rw [show min (i + 1) 5 = i + 1 by omega, cntH, h, if_pos rfl]
  rw [show min i 5 = i by omega] at ha
  omega
theorem at_end {k : Int} {N i a : Nat} (h : hasB k i = true) (h5 : i < 5) (ha : atI k N i = a) (hl : ¬ a < N) : atI k N (i + 1) = atI k N i ∧ N ≤ 1 + cntH k i := by
  unfold atI at ha ⊢
  rw [show min (i + 1) 5 = i + 1 by omega, cntH, h, if_pos rfl]
  rw [show min i 5 = i by omega] at ha ⊢
  omega
theorem vI_no {ps : List (List UInt8)} {k : Int} {i o : Nat} (h : hasB k i = false) (_ho : o < 5) : vI ps k (i + 1) o = vI ps k i o := by
  unfold vI
  by_cases e : o = i
  · subst e; rw [if_pos (by omega), if_neg (by omega), vAt, h]; rfl
  · by_cases h1 : o < i
    · rw [if_pos (by omega), if_pos h1]
    · rw [if_neg (by omega), if_neg h1]
theorem vI_out {ps : List (List UInt8)} {k : Int} {N i o : Nat} (hN : N ≤ 1 + cntH k i) (hl : ps.length = N) (_ho : o < 5) : vI ps k (i + 1) o = vI ps k i o := by
  unfold vI
  by_cases e : o = i
  · subst e; rw [if_pos (by omega), if_neg (by omega), vAt, rdP_out (by omega)]; split <;> rfl
  · by_cases h1 : o < i
    · rw [if_pos (by omega), if_pos h1]
    · rw [if_neg (by omega), if_neg h1]
theorem vI_five {ps : List (List UInt8)} {k : Int} {i o : Nat} (h : 5 ≤ i) (ho : o < 5) : vI ps k (i + 1) o = vI ps k i o := by
  unfold vI; rw [if_pos (by omega), if_pos (by omega)]
theorem vI_yes {ps : List (List UInt8)} {k : Int} {i a : Nat} (h : hasB k i = true) (ha : a = 1 + cntH k i) : vI ps k (i + 1) i = rdPc ps a := by
  unfold vI; rw [if_pos (by omega), vAt, h, if_pos rfl, ← ha]
theorem vI_other {ps : List (List UInt8)} {k : Int} {i o : Nat} (h : o ≠ i) : vI ps k (i + 1) o = vI ps k i o := by
  unfold vI
  by_cases h1 : o < i
  · rw [if_pos (by omega), if_pos h1]
  · rw [if_neg (by omega), if_neg h1]
theorem vI_full {ps : List (List UInt8)} {k : Int} {o : Nat} (h : o < 6) : vI ps k 6 o = vAt ps k o := by unfold vI; rw [if_pos h]
set_option maxHeartbeats 8000000 in
set_option maxRecDepth 100000 in
theorem spec_TextEvent (s : ByteArray) (hs : s.size ≤ 1048576) (W : World) : Calls Tryd.prog 16 #[.string s] W (RdEvt s.data.toList W) := by
  have hplen := parts_len s.data.toList
  have hsl : s.data.toList.length = s.size := by simp
  obtain ⟨P0, PR, hPS⟩ : ∃ p r, parts s.data.toList = p :: r := by
    rcases h : parts s.data.toList with _ | ⟨p, r⟩
    · exact absurd h (parts_ne _)
    · exact ⟨p, r, rfl⟩
  obtain ⟨PS, hPe⟩ : ∃ PS, parts s.data.toList = PS := ⟨_, rfl⟩
  have hPm := parts_mem_len s.data.toList
  rw [hPe] at hPm hplen
  have hP0 : PS[0]? = some P0 := by rw [← hPe, hPS]; rfl
  have hKd : kdP PS = (kindN P0 12 : Int) := by rw [← hPe, hPS]; rfl
  have HPE := Lib.hid hPe
  have HPM := Lib.hid hPm
  have HP0 := Lib.hid hP0
  have HKD := Lib.hid hKd
  clear hPS hPe hPm hP0 hKd
  go_enter Tryd.func16, Tryd.ntmps16
  go_wp2_with fail
  have he1 : Eff 0 0 W (W.alloc (.cells #[.int .i64 0, .int .i64 0, .int .i64 0, .int .i64 0, .int .i64 0, .int .i64 0, .bool false] 32)) := Eff.alloc _ _
  have hs1 : (W.alloc (.cells #[.int .i64 0, .int .i64 0, .int .i64 0, .int .i64 0, .int .i64 0, .int .i64 0, .bool false] 32)).heap.size = W.heap.size + 1 := (by simp)
  have res_0 : (W.alloc (.cells #[.int .i64 0, .int .i64 0, .int .i64 0, .int .i64 0, .int .i64 0, .int .i64 0, .bool false] 32)).cell? ⟨W.heap.size, 0, none⟩ = some (.int .i64 0) := var_cell _ _ _ _ _ rfl
  have res_1 : (W.alloc (.cells #[.int .i64 0, .int .i64 0, .int .i64 0, .int .i64 0, .int .i64 0, .int .i64 0, .bool false] 32)).cell? ⟨W.heap.size, 1, none⟩ = some (.int .i64 0) := var_cell _ _ _ _ _ rfl
  have res_2 : (W.alloc (.cells #[.int .i64 0, .int .i64 0, .int .i64 0, .int .i64 0, .int .i64 0, .int .i64 0, .bool false] 32)).cell? ⟨W.heap.size, 2, none⟩ = some (.int .i64 0) := var_cell _ _ _ _ _ rfl
  have res_3 : (W.alloc (.cells #[.int .i64 0, .int .i64 0, .int .i64 0, .int .i64 0, .int .i64 0, .int .i64 0, .bool false] 32)).cell? ⟨W.heap.size, 3, none⟩ = some (.int .i64 0) := var_cell _ _ _ _ _ rfl
  have res_4 : (W.alloc (.cells #[.int .i64 0, .int .i64 0, .int .i64 0, .int .i64 0, .int .i64 0, .int .i64 0, .bool false] 32)).cell? ⟨W.heap.size, 4, none⟩ = some (.int .i64 0) := var_cell _ _ _ _ _ rfl
  have res_5 : (W.alloc (.cells #[.int .i64 0, .int .i64 0, .int .i64 0, .int .i64 0, .int .i64 0, .int .i64 0, .bool false] 32)).cell? ⟨W.heap.size, 5, none⟩ = some (.int .i64 0) := var_cell _ _ _ _ _ rfl
  have res_6 : (W.alloc (.cells #[.int .i64 0, .int .i64 0, .int .i64 0, .int .i64 0, .int .i64 0, .int .i64 0, .bool false] 32)).cell? ⟨W.heap.size, 6, none⟩ = some (.bool false) := var_cell _ _ _ _ _ rfl
  have res_f0 : (W.alloc (.cells #[.int .i64 0, .int .i64 0, .int .i64 0, .int .i64 0, .int .i64 0, .int .i64 0, .bool false] 32)).frozen? ⟨W.heap.size, 0, none⟩ = false := var_frozen _ _ _ _
  have res_f1 : (W.alloc (.cells #[.int .i64 0, .int .i64 0, .int .i64 0, .int .i64 0, .int .i64 0, .int .i64 0, .bool false] 32)).frozen? ⟨W.heap.size, 1, none⟩ = false := var_frozen _ _ _ _
  have res_f2 : (W.alloc (.cells #[.int .i64 0, .int .i64 0, .int .i64 0, .int .i64 0, .int .i64 0, .int .i64 0, .bool false] 32)).frozen? ⟨W.heap.size, 2, none⟩ = false := var_frozen _ _ _ _
  have res_f3 : (W.alloc (.cells #[.int .i64 0, .int .i64 0, .int .i64 0, .int .i64 0, .int .i64 0, .int .i64 0, .bool false] 32)).frozen? ⟨W.heap.size, 3, none⟩ = false := var_frozen _ _ _ _
  have res_f4 : (W.alloc (.cells #[.int .i64 0, .int .i64 0, .int .i64 0, .int .i64 0, .int .i64 0, .int .i64 0, .bool false] 32)).frozen? ⟨W.heap.size, 4, none⟩ = false := var_frozen _ _ _ _
  have res_f5 : (W.alloc (.cells #[.int .i64 0, .int .i64 0, .int .i64 0, .int .i64 0, .int .i64 0, .int .i64 0, .bool false] 32)).frozen? ⟨W.heap.size, 5, none⟩ = false := var_frozen _ _ _ _
  have res_f6 : (W.alloc (.cells #[.int .i64 0, .int .i64 0, .int .i64 0, .int .i64 0, .int .i64 0, .int .i64 0, .bool false] 32)).frozen? ⟨W.heap.size, 6, none⟩ = false := var_frozen _ _ _ _
  generalize (W.alloc (.cells #[.int .i64 0, .int .i64 0, .int .i64 0, .int .i64 0, .int .i64 0, .int .i64 0, .bool false] 32)) = w1 at *
  have hz1 : W.heap.size ≤ w1.heap.size := he1.size
  have b1 : Below W.heap.size W w1 := he1.below (Nat.le_refl _) (by omega)
  have res_l : W.heap.size < w1.heap.size := (by omega)
  clear hs1
  go_wp2_with fail
  refine (l04Parts_any s hs w1).mono ?_
  rintro e w2 ⟨Ap, N, cp, hN, rfl, p, hb⟩
  rw [HPE.out] at hN p
  have he2 : Eff 0 0 w1 w2 := Eff.of hb
  have hz2 : w1.heap.size ≤ w2.heap.size := he2.size
  have b2 : Below W.heap.size W w2 := b1.trans (he2.below b1.size (by omega))
  replace res_f0 := (he2.frozen res_0 (by simp only; omega)).trans res_f0
  replace res_f1 := (he2.frozen res_1 (by simp only; omega)).trans res_f1
  replace res_f2 := (he2.frozen res_2 (by simp only; omega)).trans res_f2
  replace res_f3 := (he2.frozen res_3 (by simp only; omega)).trans res_f3
  replace res_f4 := (he2.frozen res_4 (by simp only; omega)).trans res_f4
  replace res_f5 := (he2.frozen res_5 (by simp only; omega)).trans res_f5
  replace res_f6 := (he2.frozen res_6 (by simp only; omega)).trans res_f6
  replace res_0 := he2.cell res_0 (by simp only; omega)
  replace res_1 := he2.cell res_1 (by simp only; omega)
  replace res_2 := he2.cell res_2 (by simp only; omega)
  replace res_3 := he2.cell res_3 (by simp only; omega)
  replace res_4 := he2.cell res_4 (by simp only; omega)
  replace res_5 := he2.cell res_5 (by simp only; omega)
  replace res_6 := he2.cell res_6 (by simp only; omega)
  replace res_l := Nat.lt_of_lt_of_le res_l hz2
  clear hb
  have hN1 : 1 ≤ N := by have := (List.getElem?_eq_some_iff.1 HP0.out).1; omega
  have hNl : N ≤ s.size + 1 := by omega
  have HNN := Lib.hid hN
  clear hN hplen hsl
  obtain ⟨pg, rfl, hpg1, hpg2, hpc, -⟩ := Own.form p (by omega)
  have hp0c : w2.cell? ⟨pg, 0, none⟩ = some (.string (bstr P0)) := (hpc 0 (by omega)).trans (by rw [strs, List.getElem?_map, HP0.out]; rfl)
  clear hpc
  have hp_l : pg < w2.heap.size := World.block_lt_of_cell? _ _ hp0c
  go_wp2_with fail
  have he3 : Eff 0 0 w2 (w2.alloc (.cells #[.int .i64 0, .int .i64 0, .int .i64 0, .int .i64 0, .int .i64 0, .int .i64 0, .bool false] 32)) := Eff.alloc _ _
  have hs3 : (w2.alloc (.cells #[.int .i64 0, .int .i64 0, .int .i64 0, .int .i64 0, .int .i64 0, .int .i64 0, .bool false] 32)).heap.size = w2.heap.size + 1 := (by simp)
  have e_0 : (w2.alloc (.cells #[.int .i64 0, .int .i64 0, .int .i64 0, .int .i64 0, .int .i64 0, .int .i64 0, .bool false] 32)).cell? ⟨w2.heap.size, 0, none⟩ = some (.int .i64 0) := var_cell _ _ _ _ _ rfl
  have e_1 : (w2.alloc (.cells #[.int .i64 0, .int .i64 0, .int .i64 0, .int .i64 0, .int .i64 0, .int .i64 0, .bool false] 32)).cell? ⟨w2.heap.size, 1, none⟩ = some (.int .i64 0) := var_cell _ _ _ _ _ rfl
  have e_2 : (w2.alloc (.cells #[.int .i64 0, .int .i64 0, .int .i64 0, .int .i64 0, .int .i64 0, .int .i64 0, .bool false] 32)).cell? ⟨w2.heap.size, 2, none⟩ = some (.int .i64 0) := var_cell _ _ _ _ _ rfl
  have e_3 : (w2.alloc (.cells #[.int .i64 0, .int .i64 0, .int .i64 0, .int .i64 0, .int .i64 0, .int .i64 0, .bool false] 32)).cell? ⟨w2.heap.size, 3, none⟩ = some (.int .i64 0) := var_cell _ _ _ _ _ rfl
  have e_4 : (w2.alloc (.cells #[.int .i64 0, .int .i64 0, .int .i64 0, .int .i64 0, .int .i64 0, .int .i64 0, .bool false] 32)).cell? ⟨w2.heap.size, 4, none⟩ = some (.int .i64 0) := var_cell _ _ _ _ _ rfl
  have e_5 : (w2.alloc (.cells #[.int .i64 0, .int .i64 0, .int .i64 0, .int .i64 0, .int .i64 0, .int .i64 0, .bool false] 32)).cell? ⟨w2.heap.size, 5, none⟩ = some (.int .i64 0) := var_cell _ _ _ _ _ rfl
  have e_6 : (w2.alloc (.cells #[.int .i64 0, .int .i64 0, .int .i64 0, .int .i64 0, .int .i64 0, .int .i64 0, .bool false] 32)).cell? ⟨w2.heap.size, 6, none⟩ = some (.bool false) := var_cell _ _ _ _ _ rfl
  have e_f0 : (w2.alloc (.cells #[.int .i64 0, .int .i64 0, .int .i64 0, .int .i64 0, .int .i64 0, .int .i64 0, .bool false] 32)).frozen? ⟨w2.heap.size, 0, none⟩ = false := var_frozen _ _ _ _
  have e_f1 : (w2.alloc (.cells #[.int .i64 0, .int .i64 0, .int .i64 0, .int .i64 0, .int .i64 0, .int .i64 0, .bool false] 32)).frozen? ⟨w2.heap.size, 1, none⟩ = false := var_frozen _ _ _ _
  have e_f2 : (w2.alloc (.cells #[.int .i64 0, .int .i64 0, .int .i64 0, .int .i64 0, .int .i64 0, .int .i64 0, .bool false] 32)).frozen? ⟨w2.heap.size, 2, none⟩ = false := var_frozen _ _ _ _
  have e_f3 : (w2.alloc (.cells #[.int .i64 0, .int .i64 0, .int .i64 0, .int .i64 0, .int .i64 0, .int .i64 0, .bool false] 32)).frozen? ⟨w2.heap.size, 3, none⟩ = false := var_frozen _ _ _ _
  have e_f4 : (w2.alloc (.cells #[.int .i64 0, .int .i64 0, .int .i64 0, .int .i64 0, .int .i64 0, .int .i64 0, .bool false] 32)).frozen? ⟨w2.heap.size, 4, none⟩ = false := var_frozen _ _ _ _
  have e_f5 : (w2.alloc (.cells #[.int .i64 0, .int .i64 0, .int .i64 0, .int .i64 0, .int .i64 0, .int .i64 0, .bool false] 32)).frozen? ⟨w2.heap.size, 5, none⟩ = false := var_frozen _ _ _ _
  have e_f6 : (w2.alloc (.cells #[.int .i64 0, .int .i64 0, .int .i64 0, .int .i64 0, .int .i64 0, .int .i64 0, .bool false] 32)).frozen? ⟨w2.heap.size, 6, none⟩ = false := var_frozen _ _ _ _
  generalize (w2.alloc (.cells #[.int .i64 0, .int .i64 0, .int .i64 0, .int .i64 0, .int .i64 0, .int .i64 0, .bool false] 32)) = w3 at *
  have hz3 : w2.heap.size ≤ w3.heap.size := he3.size
  have b3 : Below W.heap.size W w3 := b2.trans (he3.below b2.size (by omega))
  replace p := p.keep he3 (by omega)
  replace res_f0 := (he3.frozen res_0 (by simp only; omega)).trans res_f0
  replace res_f1 := (he3.frozen res_1 (by simp only; omega)).trans res_f1
  replace res_f2 := (he3.frozen res_2 (by simp only; omega)).trans res_f2
  replace res_f3 := (he3.frozen res_3 (by simp only; omega)).trans res_f3
  replace res_f4 := (he3.frozen res_4 (by simp only; omega)).trans res_f4
  replace res_f5 := (he3.frozen res_5 (by simp only; omega)).trans res_f5
  replace res_f6 := (he3.frozen res_6 (by simp only; omega)).trans res_f6
  replace res_0 := he3.cell res_0 (by simp only; omega)
  replace res_1 := he3.cell res_1 (by simp only; omega)
  replace res_2 := he3.cell res_2 (by simp only; omega)
  replace res_3 := he3.cell res_3 (by simp only; omega)
  replace res_4 := he3.cell res_4 (by simp only; omega)
  replace res_5 := he3.cell res_5 (by simp only; omega)
  replace res_6 := he3.cell res_6 (by simp only; omega)
  replace hp0c := he3.cell hp0c (by simp only; omega)
  replace res_l := Nat.lt_of_lt_of_le res_l hz3
  have e_l : w2.heap.size < w3.heap.size := (by omega)
  clear hs3
  have hEW : w2.heap.size < w3.heap.size := by omega
  refine (ev_words w3).mono ?_
  rintro e wx ⟨rfl, hwx⟩
  subst hwx
  have he4 : Eff 0 0 w3 (w3.alloc (.cells #[.string ⟨#[]⟩, .string ⟨#[100, 101, 112, 111, 115, 105, 116]⟩, .string ⟨#[111, 112, 101, 110]⟩, .string ⟨#[99, 108, 111, 115, 101]⟩, .string ⟨#[112, 114, 105, 99, 101]⟩, .string ⟨#[97, 100, 109, 105, 116]⟩, .string ⟨#[102, 117, 108, 102, 105, 108, 108]⟩, .string ⟨#[102, 97, 105, 108]⟩, .string ⟨#[116, 105, 99, 107]⟩, .string ⟨#[108, 97, 117, 110, 99, 104]⟩, .string ⟨#[97, 114, 114, 105, 118, 101]⟩, .string ⟨#[108, 111, 115, 116]⟩] 9)) := Eff.alloc _ _
  have hwc := fun (i : Nat) (h : i < 12) => ev_at h w3 9
  have hs4 : (w3.alloc (.cells #[.string ⟨#[]⟩, .string ⟨#[100, 101, 112, 111, 115, 105, 116]⟩, .string ⟨#[111, 112, 101, 110]⟩, .string ⟨#[99, 108, 111, 115, 101]⟩, .string ⟨#[112, 114, 105, 99, 101]⟩, .string ⟨#[97, 100, 109, 105, 116]⟩, .string ⟨#[102, 117, 108, 102, 105, 108, 108]⟩, .string ⟨#[102, 97, 105, 108]⟩, .string ⟨#[116, 105, 99, 107]⟩, .string ⟨#[108, 97, 117, 110, 99, 104]⟩, .string ⟨#[97, 114, 114, 105, 118, 101]⟩, .string ⟨#[108, 111, 115, 116]⟩] 9)).heap.size = w3.heap.size + 1 := (by simp)
  generalize (w3.alloc (.cells #[.string ⟨#[]⟩, .string ⟨#[100, 101, 112, 111, 115, 105, 116]⟩, .string ⟨#[111, 112, 101, 110]⟩, .string ⟨#[99, 108, 111, 115, 101]⟩, .string ⟨#[112, 114, 105, 99, 101]⟩, .string ⟨#[97, 100, 109, 105, 116]⟩, .string ⟨#[102, 117, 108, 102, 105, 108, 108]⟩, .string ⟨#[102, 97, 105, 108]⟩, .string ⟨#[116, 105, 99, 107]⟩, .string ⟨#[108, 97, 117, 110, 99, 104]⟩, .string ⟨#[97, 114, 114, 105, 118, 101]⟩, .string ⟨#[108, 111, 115, 116]⟩] 9)) = w4 at *
  have hz4 : w3.heap.size ≤ w4.heap.size := he4.size
  have b4 : Below W.heap.size W w4 := b3.trans (he4.below b3.size (by omega))
  replace p := p.keep he4 (by omega)
  replace res_f0 := (he4.frozen res_0 (by simp only; omega)).trans res_f0
  replace res_f1 := (he4.frozen res_1 (by simp only; omega)).trans res_f1
  replace res_f2 := (he4.frozen res_2 (by simp only; omega)).trans res_f2
  replace res_f3 := (he4.frozen res_3 (by simp only; omega)).trans res_f3
  replace res_f4 := (he4.frozen res_4 (by simp only; omega)).trans res_f4
  replace res_f5 := (he4.frozen res_5 (by simp only; omega)).trans res_f5
  replace res_f6 := (he4.frozen res_6 (by simp only; omega)).trans res_f6
  replace e_f0 := (he4.frozen e_0 (by simp only; omega)).trans e_f0
  replace e_f1 := (he4.frozen e_1 (by simp only; omega)).trans e_f1
  replace e_f2 := (he4.frozen e_2 (by simp only; omega)).trans e_f2
  replace e_f3 := (he4.frozen e_3 (by simp only; omega)).trans e_f3
  replace e_f4 := (he4.frozen e_4 (by simp only; omega)).trans e_f4
  replace e_f5 := (he4.frozen e_5 (by simp only; omega)).trans e_f5
  replace e_f6 := (he4.frozen e_6 (by simp only; omega)).trans e_f6
  replace res_0 := he4.cell res_0 (by simp only; omega)
  replace res_1 := he4.cell res_1 (by simp only; omega)
  replace res_2 := he4.cell res_2 (by simp only; omega)
  replace res_3 := he4.cell res_3 (by simp only; omega)
  replace res_4 := he4.cell res_4 (by simp only; omega)
  replace res_5 := he4.cell res_5 (by simp only; omega)
  replace res_6 := he4.cell res_6 (by simp only; omega)
  replace hp0c := he4.cell hp0c (by simp only; omega)
  replace e_0 := he4.cell e_0 (by simp only; omega)
  replace e_1 := he4.cell e_1 (by simp only; omega)
  replace e_2 := he4.cell e_2 (by simp only; omega)
  replace e_3 := he4.cell e_3 (by simp only; omega)
  replace e_4 := he4.cell e_4 (by simp only; omega)
  replace e_5 := he4.cell e_5 (by simp only; omega)
  replace e_6 := he4.cell e_6 (by simp only; omega)
  replace res_l := Nat.lt_of_lt_of_le res_l hz4
  replace e_l := Nat.lt_of_lt_of_le e_l hz4
  clear hs4
  have HWC := Lib.hid hwc
  clear hwc
  have hw_l : w3.heap.size < w4.heap.size := World.block_lt_of_cell? _ _ (HWC.out 0 (by omega))
  go_wp2_with fail
  have hEB : W.heap.size < w2.heap.size := by omega
  have hEB2 : w2.heap.size < w4.heap.size := by omega
  go_loopw [17] (fun vi wr => ∃ i : Nat, i ≤ 12 ∧ vi = .int .i64 (i : Int) ∧ Eff w2.heap.size (w2.heap.size + 1) w4 wr ∧ wr.cell? ⟨w2.heap.size, 0, none⟩ = some (.int .i64 (kindN P0 i : Int)) ∧ wr.cell? ⟨w2.heap.size, 1, none⟩ = some (.int .i64 0) ∧ wr.cell? ⟨w2.heap.size, 2, none⟩ = some (.int .i64 0) ∧ wr.cell? ⟨w2.heap.size, 3, none⟩ = some (.int .i64 0) ∧ wr.cell? ⟨w2.heap.size, 4, none⟩ = some (.int .i64 0) ∧ wr.cell? ⟨w2.heap.size, 5, none⟩ = some (.int .i64 0) ∧ wr.cell? ⟨w2.heap.size, 6, none⟩ = some (.bool false) ∧ wr.frozen? ⟨w2.heap.size, 0, none⟩ = false ∧ wr.frozen? ⟨w2.heap.size, 1, none⟩ = false ∧ wr.frozen? ⟨w2.heap.size, 2, none⟩ = false ∧ wr.frozen? ⟨w2.heap.size, 3, none⟩ = false ∧ wr.frozen? ⟨w2.heap.size, 4, none⟩ = false ∧ wr.frozen? ⟨w2.heap.size, 5, none⟩ = false ∧ wr.frozen? ⟨w2.heap.size, 6, none⟩ = false) (fun vi _ => 12 - (intOf vi).toNat)
  case atStart => exact ⟨0, by omega, rfl, Eff.refl _ _ _, e_0, e_1, e_2, e_3, e_4, e_5, e_6, e_f0, e_f1, e_f2, e_f3, e_f4, e_f5, e_f6⟩
  clear e_0 e_1 e_2 e_3 e_4 e_5 e_6 e_f0 e_f1 e_f2 e_f3 e_f4 e_f5 e_f6
  case round =>
    obtain ⟨i, hi, rfl, heL, e_0, e_1, e_2, e_3, e_4, e_5, e_6, e_f0, e_f1, e_f2, e_f3, e_f4, e_f5, e_f6⟩ := hrel
    have hzL := heL.size
    replace hp0c := heL.cell hp0c (by simp only; omega)
    by_cases hlt : i < 12
    · skip
      have hwi := heL.cell (HWC.out i hlt) (by simp only; omega)
      obtain ⟨Wi, hWi⟩ : ∃ x, evWs.getD i [] = x := ⟨_, rfl⟩
      rw [hWi] at hwi
      have HWI := Lib.hid hWi
      clear hWi
      have hs0 : (0 : Int) ≤ (i : Int) := by omega
      have hs5 : (i : Int) < 12 := by omega
      have hN0 : (0 : Int) < (N : Int) := by omega
      by_cases hi0 : i = 0
      · subst hi0
        have hkn : kindN P0 (0 + 1) = kindN P0 0 := by simp [kindN]
        have HKN := Lib.hid hkn
        clear hkn
        go_wp2_with fail
        go_roundw
        case rel => exact ⟨0 + 1, by omega, by go_num, heL, by rw [HKN.out]; exact e_0, e_1, e_2, e_3, e_4, e_5, e_6, e_f0, e_f1, e_f2, e_f3, e_f4, e_f5, e_f6⟩
        case measure => simp [intOf]
      have hs6 : (0 : Int) < (i : Int) := by omega
      by_cases hq : Wi = P0
      · have hcm := eq_yes hq
        have hkn : kindN P0 (i + 1) = i := by rw [kindN, if_pos (by rw [← hq, ← HWI.out, List.getD_eq_getElem?_getD, List.getElem?_eq_getElem (show i < evWs.length from hlt)]; rfl)]
        have HKN := Lib.hid hkn
        clear hkn hq
        go_wp2_with fail
        go_roundw
        case rel =>
          have es := eff_set wr (w2.heap.size) 0 (.int .i64 (i : Int))
          refine ⟨i + 1, by omega, by go_num, heL.trans es, by rw [HKN.out]; exact set_same e_0 _, set_other e_1 _ (.inr (by omega)), set_other e_2 _ (.inr (by omega)), set_other e_3 _ (.inr (by omega)), set_other e_4 _ (.inr (by omega)), set_other e_5 _ (.inr (by omega)), set_other e_6 _ (.inr (by omega)), set_frozen e_f0 _, set_frozen e_f1 _, set_frozen e_f2 _, set_frozen e_f3 _, set_frozen e_f4 _, set_frozen e_f5 _, set_frozen e_f6 _⟩
        case measure => simp [intOf]; omega
      · have hcm := eq_no hq
        have hkn : kindN P0 (i + 1) = kindN P0 i := by rw [kindN, if_neg (fun h => hq (by rw [← HWI.out, List.getD_eq_getElem?_getD, h]; rfl))]
        have HKN := Lib.hid hkn
        clear hkn hq
        go_wp2_with fail
        go_roundw
        case rel => exact ⟨i + 1, by omega, by go_num, heL, by rw [HKN.out]; exact e_0, e_1, e_2, e_3, e_4, e_5, e_6, e_f0, e_f1, e_f2, e_f3, e_f4, e_f5, e_f6⟩
        case measure => simp [intOf]; omega
    · obtain rfl : i = 12 := by omega
      have hsq : ¬ ((12 : Nat) : Int) < 12 := by omega
      have hbW : Below W.heap.size W wr := b4.trans (heL.below b4.size (by omega))
      replace p := Own.keep p heL (by omega)
      replace res_f0 := (heL.frozen res_0 (by simp only; omega)).trans res_f0
      replace res_f1 := (heL.frozen res_1 (by simp only; omega)).trans res_f1
      replace res_f2 := (heL.frozen res_2 (by simp only; omega)).trans res_f2
      replace res_f3 := (heL.frozen res_3 (by simp only; omega)).trans res_f3
      replace res_f4 := (heL.frozen res_4 (by simp only; omega)).trans res_f4
      replace res_f5 := (heL.frozen res_5 (by simp only; omega)).trans res_f5
      replace res_f6 := (heL.frozen res_6 (by simp only; omega)).trans res_f6
      replace res_0 := heL.cell res_0 (by simp only; omega)
      replace res_1 := heL.cell res_1 (by simp only; omega)
      replace res_2 := heL.cell res_2 (by simp only; omega)
      replace res_3 := heL.cell res_3 (by simp only; omega)
      replace res_4 := heL.cell res_4 (by simp only; omega)
      replace res_5 := heL.cell res_5 (by simp only; omega)
      replace res_6 := heL.cell res_6 (by simp only; omega)
      obtain ⟨K, hK⟩ : ∃ K, kindN P0 12 = K := ⟨_, rfl⟩
      have hK11 : K ≤ 11 := by rw [← hK]; exact kindN_lt P0
      rw [hK] at e_0
      have HK : Hid (kdP PS = (K : Int)) := Lib.hid (by rw [HKD.out, hK])
      clear hK hp0c
      have q0 : (0 : Int) ≤ (K : Int) := by omega
      have res_0P := (Eff.alloc wr (.cells #[.int .i64 0, .int .i64 0, .int .i64 0, .int .i64 0, .int .i64 0] 3)).cell res_0 (by simp only; omega)
      have res_1P := (Eff.alloc wr (.cells #[.int .i64 0, .int .i64 0, .int .i64 0, .int .i64 0, .int .i64 0] 3)).cell res_1 (by simp only; omega)
      have res_2P := (Eff.alloc wr (.cells #[.int .i64 0, .int .i64 0, .int .i64 0, .int .i64 0, .int .i64 0] 3)).cell res_2 (by simp only; omega)
      have res_3P := (Eff.alloc wr (.cells #[.int .i64 0, .int .i64 0, .int .i64 0, .int .i64 0, .int .i64 0] 3)).cell res_3 (by simp only; omega)
      have res_4P := (Eff.alloc wr (.cells #[.int .i64 0, .int .i64 0, .int .i64 0, .int .i64 0, .int .i64 0] 3)).cell res_4 (by simp only; omega)
      have res_5P := (Eff.alloc wr (.cells #[.int .i64 0, .int .i64 0, .int .i64 0, .int .i64 0, .int .i64 0] 3)).cell res_5 (by simp only; omega)
      have res_6P := (Eff.alloc wr (.cells #[.int .i64 0, .int .i64 0, .int .i64 0, .int .i64 0, .int .i64 0] 3)).cell res_6 (by simp only; omega)
      have e_0P := (Eff.alloc wr (.cells #[.int .i64 0, .int .i64 0, .int .i64 0, .int .i64 0, .int .i64 0] 3)).cell e_0 (by simp only; omega)
      have e_1P := (Eff.alloc wr (.cells #[.int .i64 0, .int .i64 0, .int .i64 0, .int .i64 0, .int .i64 0] 3)).cell e_1 (by simp only; omega)
      have e_2P := (Eff.alloc wr (.cells #[.int .i64 0, .int .i64 0, .int .i64 0, .int .i64 0, .int .i64 0] 3)).cell e_2 (by simp only; omega)
      have e_3P := (Eff.alloc wr (.cells #[.int .i64 0, .int .i64 0, .int .i64 0, .int .i64 0, .int .i64 0] 3)).cell e_3 (by simp only; omega)
      have e_4P := (Eff.alloc wr (.cells #[.int .i64 0, .int .i64 0, .int .i64 0, .int .i64 0, .int .i64 0] 3)).cell e_4 (by simp only; omega)
      have e_5P := (Eff.alloc wr (.cells #[.int .i64 0, .int .i64 0, .int .i64 0, .int .i64 0, .int .i64 0] 3)).cell e_5 (by simp only; omega)
      have e_6P := (Eff.alloc wr (.cells #[.int .i64 0, .int .i64 0, .int .i64 0, .int .i64 0, .int .i64 0] 3)).cell e_6 (by simp only; omega)
      go_wp2_with fail
      have he1 : Eff 0 0 wr (wr.alloc (.cells #[.int .i64 0, .int .i64 0, .int .i64 0, .int .i64 0, .int .i64 0] 3)) := Eff.alloc _ _
      have hs1 : (wr.alloc (.cells #[.int .i64 0, .int .i64 0, .int .i64 0, .int .i64 0, .int .i64 0] 3)).heap.size = wr.heap.size + 1 := (by simp)
      have v_0 : (wr.alloc (.cells #[.int .i64 0, .int .i64 0, .int .i64 0, .int .i64 0, .int .i64 0] 3)).cell? ⟨wr.heap.size, 0, none⟩ = some (.int .i64 0) := var_cell _ _ _ _ _ rfl
      have v_1 : (wr.alloc (.cells #[.int .i64 0, .int .i64 0, .int .i64 0, .int .i64 0, .int .i64 0] 3)).cell? ⟨wr.heap.size, 1, none⟩ = some (.int .i64 0) := var_cell _ _ _ _ _ rfl
      have v_2 : (wr.alloc (.cells #[.int .i64 0, .int .i64 0, .int .i64 0, .int .i64 0, .int .i64 0] 3)).cell? ⟨wr.heap.size, 2, none⟩ = some (.int .i64 0) := var_cell _ _ _ _ _ rfl
      have v_3 : (wr.alloc (.cells #[.int .i64 0, .int .i64 0, .int .i64 0, .int .i64 0, .int .i64 0] 3)).cell? ⟨wr.heap.size, 3, none⟩ = some (.int .i64 0) := var_cell _ _ _ _ _ rfl
      have v_4 : (wr.alloc (.cells #[.int .i64 0, .int .i64 0, .int .i64 0, .int .i64 0, .int .i64 0] 3)).cell? ⟨wr.heap.size, 4, none⟩ = some (.int .i64 0) := var_cell _ _ _ _ _ rfl
      have v_f0 : (wr.alloc (.cells #[.int .i64 0, .int .i64 0, .int .i64 0, .int .i64 0, .int .i64 0] 3)).frozen? ⟨wr.heap.size, 0, none⟩ = false := var_frozen _ _ _ _
      have v_f1 : (wr.alloc (.cells #[.int .i64 0, .int .i64 0, .int .i64 0, .int .i64 0, .int .i64 0] 3)).frozen? ⟨wr.heap.size, 1, none⟩ = false := var_frozen _ _ _ _
      have v_f2 : (wr.alloc (.cells #[.int .i64 0, .int .i64 0, .int .i64 0, .int .i64 0, .int .i64 0] 3)).frozen? ⟨wr.heap.size, 2, none⟩ = false := var_frozen _ _ _ _
      have v_f3 : (wr.alloc (.cells #[.int .i64 0, .int .i64 0, .int .i64 0, .int .i64 0, .int .i64 0] 3)).frozen? ⟨wr.heap.size, 3, none⟩ = false := var_frozen _ _ _ _
      have v_f4 : (wr.alloc (.cells #[.int .i64 0, .int .i64 0, .int .i64 0, .int .i64 0, .int .i64 0] 3)).frozen? ⟨wr.heap.size, 4, none⟩ = false := var_frozen _ _ _ _
      generalize (wr.alloc (.cells #[.int .i64 0, .int .i64 0, .int .i64 0, .int .i64 0, .int .i64 0] 3)) = x1 at *
      have hz1 : wr.heap.size ≤ x1.heap.size := he1.size
      have b1 : Below W.heap.size W x1 := hbW.trans (he1.below hbW.size (by omega))
      replace p := p.keep he1 (by omega)
      replace res_f0 := (he1.frozen res_0 (by simp only; omega)).trans res_f0
      replace res_f1 := (he1.frozen res_1 (by simp only; omega)).trans res_f1
      replace res_f2 := (he1.frozen res_2 (by simp only; omega)).trans res_f2
      replace res_f3 := (he1.frozen res_3 (by simp only; omega)).trans res_f3
      replace res_f4 := (he1.frozen res_4 (by simp only; omega)).trans res_f4
      replace res_f5 := (he1.frozen res_5 (by simp only; omega)).trans res_f5
      replace res_f6 := (he1.frozen res_6 (by simp only; omega)).trans res_f6
      replace e_f0 := (he1.frozen e_0 (by simp only; omega)).trans e_f0
      replace e_f1 := (he1.frozen e_1 (by simp only; omega)).trans e_f1
      replace e_f2 := (he1.frozen e_2 (by simp only; omega)).trans e_f2
      replace e_f3 := (he1.frozen e_3 (by simp only; omega)).trans e_f3
      replace e_f4 := (he1.frozen e_4 (by simp only; omega)).trans e_f4
      replace e_f5 := (he1.frozen e_5 (by simp only; omega)).trans e_f5
      replace e_f6 := (he1.frozen e_6 (by simp only; omega)).trans e_f6
      replace res_0 := he1.cell res_0 (by simp only; omega)
      replace res_1 := he1.cell res_1 (by simp only; omega)
      replace res_2 := he1.cell res_2 (by simp only; omega)
      replace res_3 := he1.cell res_3 (by simp only; omega)
      replace res_4 := he1.cell res_4 (by simp only; omega)
      replace res_5 := he1.cell res_5 (by simp only; omega)
      replace res_6 := he1.cell res_6 (by simp only; omega)
      replace e_0 := he1.cell e_0 (by simp only; omega)
      replace e_1 := he1.cell e_1 (by simp only; omega)
      replace e_2 := he1.cell e_2 (by simp only; omega)
      replace e_3 := he1.cell e_3 (by simp only; omega)
      replace e_4 := he1.cell e_4 (by simp only; omega)
      replace e_5 := he1.cell e_5 (by simp only; omega)
      replace e_6 := he1.cell e_6 (by simp only; omega)
      have v_l : wr.heap.size < x1.heap.size := (by omega)
      clear res_0P res_1P res_2P res_3P res_4P res_5P res_6P e_0P e_1P e_2P e_3P e_4P e_5P e_6P
      have hVH : wr.heap.size < x1.heap.size := by omega
      clear hs1
      refine (l04HasC (K : Int) q0 (by omega) x1.heap.size x1 rfl).mono ?_
      rintro e x2 ⟨rfl, h_0, h_1, h_2, h_3, h_4, h_5, he⟩
      have he2 : Eff (0) (0) x1 x2 := he
      have hz2 : x1.heap.size ≤ x2.heap.size := he2.size
      have b2 : Below W.heap.size W x2 := b1.trans (he2.below b1.size (by omega))
      replace p := p.keep he2 (by omega)
      replace res_f0 := (he2.frozen res_0 (by simp only; omega)).trans res_f0
      replace res_f1 := (he2.frozen res_1 (by simp only; omega)).trans res_f1
      replace res_f2 := (he2.frozen res_2 (by simp only; omega)).trans res_f2
      replace res_f3 := (he2.frozen res_3 (by simp only; omega)).trans res_f3
      replace res_f4 := (he2.frozen res_4 (by simp only; omega)).trans res_f4
      replace res_f5 := (he2.frozen res_5 (by simp only; omega)).trans res_f5
      replace res_f6 := (he2.frozen res_6 (by simp only; omega)).trans res_f6
      replace e_f0 := (he2.frozen e_0 (by simp only; omega)).trans e_f0
      replace e_f1 := (he2.frozen e_1 (by simp only; omega)).trans e_f1
      replace e_f2 := (he2.frozen e_2 (by simp only; omega)).trans e_f2
      replace e_f3 := (he2.frozen e_3 (by simp only; omega)).trans e_f3
      replace e_f4 := (he2.frozen e_4 (by simp only; omega)).trans e_f4
      replace e_f5 := (he2.frozen e_5 (by simp only; omega)).trans e_f5
      replace e_f6 := (he2.frozen e_6 (by simp only; omega)).trans e_f6
      replace v_f0 := (he2.frozen v_0 (by simp only; omega)).trans v_f0
      replace v_f1 := (he2.frozen v_1 (by simp only; omega)).trans v_f1
      replace v_f2 := (he2.frozen v_2 (by simp only; omega)).trans v_f2
      replace v_f3 := (he2.frozen v_3 (by simp only; omega)).trans v_f3
      replace v_f4 := (he2.frozen v_4 (by simp only; omega)).trans v_f4
      replace res_0 := he2.cell res_0 (by simp only; omega)
      replace res_1 := he2.cell res_1 (by simp only; omega)
      replace res_2 := he2.cell res_2 (by simp only; omega)
      replace res_3 := he2.cell res_3 (by simp only; omega)
      replace res_4 := he2.cell res_4 (by simp only; omega)
      replace res_5 := he2.cell res_5 (by simp only; omega)
      replace res_6 := he2.cell res_6 (by simp only; omega)
      replace e_0 := he2.cell e_0 (by simp only; omega)
      replace e_1 := he2.cell e_1 (by simp only; omega)
      replace e_2 := he2.cell e_2 (by simp only; omega)
      replace e_3 := he2.cell e_3 (by simp only; omega)
      replace e_4 := he2.cell e_4 (by simp only; omega)
      replace e_5 := he2.cell e_5 (by simp only; omega)
      replace e_6 := he2.cell e_6 (by simp only; omega)
      replace v_0 := he2.cell v_0 (by simp only; omega)
      replace v_1 := he2.cell v_1 (by simp only; omega)
      replace v_2 := he2.cell v_2 (by simp only; omega)
      replace v_3 := he2.cell v_3 (by simp only; omega)
      replace v_4 := he2.cell v_4 (by simp only; omega)
      replace v_l := Nat.lt_of_lt_of_le v_l hz2
      clear he
      have h_l : x1.heap.size < x2.heap.size := World.block_lt_of_cell? _ _ h_0
      have hhc : ∀ i, i < 6 → x2.cell? ⟨x1.heap.size, i, none⟩ = some (.bool (hasB (K : Int) i)) := by
        intro i hi
        obtain rfl | rfl | rfl | rfl | rfl | rfl : i = 0 ∨ i = 1 ∨ i = 2 ∨ i = 3 ∨ i = 4 ∨ i = 5 := by omega
        all_goals assumption
      have HHC := Lib.hid hhc
      clear hhc h_0 h_1 h_2 h_3 h_4 h_5
      have hvl : ∀ o, o < 5 → x2.cell? ⟨wr.heap.size, o, none⟩ = some (.int .i64 (vI PS (K : Int) 0 o)) := by
        intro o h
        obtain rfl | rfl | rfl | rfl | rfl : o = 0 ∨ o = 1 ∨ o = 2 ∨ o = 3 ∨ o = 4 := by omega
        all_goals assumption
      have hvf : ∀ o, o < 5 → x2.frozen? ⟨wr.heap.size, o, none⟩ = false := by
        intro o h
        obtain rfl | rfl | rfl | rfl | rfl : o = 0 ∨ o = 1 ∨ o = 2 ∨ o = 3 ∨ o = 4 := by omega
        all_goals assumption
      have HVL := Lib.hid hvl
      have HVF := Lib.hid hvf
      clear hvl hvf v_0 v_1 v_2 v_3 v_4 v_f0 v_f1 v_f2 v_f3 v_f4
      go_wp2_with fail
      have hVB : wr.heap.size < x2.heap.size := by omega
      have hat0 := at_start (K : Int) hN1
      obtain ⟨wo, rfl⟩ : ∃ x : World, x = wr := ⟨_, rfl⟩
      go_loopw [9, 39] (fun va vi wr => ∃ i a : Nat, i ≤ 6 ∧ 1 ≤ a ∧ a ≤ N ∧ vi = .int .i64 (i : Int) ∧ va = .int .i64 (a : Int) ∧ Hid (atI (K : Int) N i = a) ∧ Eff wo.heap.size (wo.heap.size + 1) x2 wr ∧ Hid (∀ o, o < 5 → wr.cell? ⟨wo.heap.size, o, none⟩ = some (.int .i64 (vI PS (K : Int) i o))) ∧ Hid (∀ o, o < 5 → wr.frozen? ⟨wo.heap.size, o, none⟩ = false)) (fun _ vi _ => 6 - (intOf vi).toNat)
      case atStart => exact ⟨0, 1, by omega, Nat.le_refl _, hN1, rfl, rfl, Lib.hid hat0, Eff.refl _ _ _, HVL, HVF⟩
      clear hat0 HVL HVF
      case round =>
        obtain ⟨i, a, hi, ha1, haN, rfl, rfl, HA, heM, HVL, HVF⟩ := hrel
        have hzM := heM.size
        have hbQ : Below W.heap.size W wr := b2.trans (heM.below b2.size (by omega))
        replace p := Own.keep p heM (by omega)
        by_cases hlt : i < 6
        · skip
          have hhi := heM.cell (HHC.out i hlt) (by simp only; omega)
          obtain ⟨bi, hbi⟩ : ∃ b, hasB (K : Int) i = b := ⟨_, rfl⟩
          rw [hbi] at hhi
          have HBI := Lib.hid hbi
          clear hbi
          have hs0 : (0 : Int) ≤ (i : Int) := by omega
          have hs6 : (i : Int) < 6 := by omega
          cases bi
          · skip
            go_wp2_with fail
            go_roundw
            case rel => exact ⟨i + 1, a, by omega, ha1, haN, by go_num, rfl, Lib.hid ((at_no HBI.out).trans HA.out), heM, Lib.hid (fun o ho => by rw [vI_no HBI.out ho]; exact HVL.out o ho), HVF⟩
            case measure => simp [intOf]; omega
          · skip
            by_cases h5 : i < 5
            · skip
              have hs5 : (i : Int) < 5 := by omega
              by_cases haL : a < N
              · skip
                have hsa : (a : Int) < (N : Int) := by omega
                have hsa0 : (0 : Int) ≤ (a : Int) := by omega
                obtain ⟨X, hX⟩ : ∃ X, PS[a]? = some X := ⟨_, List.getElem?_eq_getElem (by rw [HNN.out]; exact haL)⟩
                obtain ⟨pg2, hpgA, -, -, hpc, -⟩ := Own.form p (by omega)
                have hpg : pg2 = pg := by injection hpgA with h; injection h with h; exact h.symm
                subst hpg
                have hpx : wr.cell? ⟨pg2, a, none⟩ = some (.string (bstr X)) := (hpc a (by omega)).trans (by rw [strs, List.getElem?_map, hX]; rfl)
                have hXl : X.length ≤ s.size := by have := HPM.out X (List.mem_of_getElem? hX); simpa using this
                obtain ⟨z, hz⟩ : ∃ z, (tNum X).getD 0 = z := ⟨_, rfl⟩
                obtain ⟨bz, hbz⟩ : ∃ b, (tNum X).isSome = b := ⟨_, rfl⟩
                have hrd : rdPc PS a = z := by rw [← hz]; unfold rdPc; rw [hX]
                have HRD := Lib.hid hrd
                have HTN := Lib.hid (And.intro hz hbz)
                clear hpgA hpc hX hz hbz hrd
                have hfc := HVL.out i h5
                have hfz := HVF.out i h5
                have cw : IntKind.i64.wrap ((a : Int) + 1) = (a : Int) + 1 := IntWalk.i64_in _ (by omega)
                go_wp2_with fail
                refine (spec_TextNum (bstr X) (by rw [bstr_size]; omega) wr).mono ?_
                rintro e y1 hrd
                obtain ⟨rfl, hb⟩ := hrd
                rw [bstr_list, HTN.out.1, HTN.out.2]
                have he1 : Eff 0 0 wr y1 := Eff.of hb
                have hz1 : wr.heap.size ≤ y1.heap.size := he1.size
                have b1 : Below W.heap.size W y1 := hbQ.trans (he1.below hbQ.size (by omega))
                replace hfz := (he1.frozen hfc (by simp only; omega)).trans hfz
                replace hfc := he1.cell hfc (by simp only; omega)
                clear hb
                go_wp2_with fail
                go_roundw
                case rel =>
                  have es := eff_set y1 (wo.heap.size) i (.int .i64 z)
                  have E2 : Eff wo.heap.size (wo.heap.size + 1) x2 (y1.setCell ⟨wo.heap.size, i, none⟩ (.int .i64 z)) := (heM.trans he1.anyD').trans es
                  refine ⟨i + 1, a + 1, by omega, by omega, by omega, by go_num, by go_num, Lib.hid (at_yes HBI.out h5 HA.out haL).1, E2, Lib.hid (fun o ho => ?_), Lib.hid (fun o ho => set_frozen ((he1.frozen (HVL.out o ho) (.inr (Nat.zero_le _))).trans (HVF.out o ho)) _)⟩
                  by_cases hoi : o = i
                  · subst hoi
                    rw [vI_yes HBI.out (at_yes HBI.out h5 HA.out haL).2, HRD.out]
                    exact set_same hfc _
                  · rw [vI_other hoi]
                    exact set_other (he1.cell (HVL.out o ho) (.inr (Nat.zero_le _))) _ (.inr hoi)
                case measure => simp [intOf]; omega
              · skip
                have hsa : ¬ (a : Int) < (N : Int) := by omega
                go_wp2_with fail
                go_roundw
                case rel => exact ⟨i + 1, a, by omega, ha1, haN, by go_num, rfl, Lib.hid (((at_end HBI.out h5 HA.out haL).1).trans HA.out), heM, Lib.hid (fun o ho => by rw [vI_out (at_end HBI.out h5 HA.out haL).2 HNN.out ho]; exact HVL.out o ho), HVF⟩
                case measure => simp [intOf]; omega
            · skip
              have hs5 : ¬ (i : Int) < 5 := by omega
              go_wp2_with fail
              go_roundw
              case rel => exact ⟨i + 1, a, by omega, ha1, haN, by go_num, rfl, Lib.hid ((at_five (by omega)).trans HA.out), heM, Lib.hid (fun o ho => by rw [vI_five (by omega) ho]; exact HVL.out o ho), HVF⟩
              case measure => simp [intOf]; omega
        · obtain rfl : i = 6 := by omega
          have hsq2 : ¬ ((6 : Nat) : Int) < 6 := by omega
          obtain ⟨f1, f2, f3, f4, f5⟩ := vAt_rd PS (k := (K : Int)) q0 (by omega)
          have v_0 := HVL.out 0 (by omega)
          have v_1 := HVL.out 1 (by omega)
          have v_2 := HVL.out 2 (by omega)
          have v_3 := HVL.out 3 (by omega)
          have v_4 := HVL.out 4 (by omega)
          rw [vI_full (by omega), f1] at v_0
          rw [vI_full (by omega), f2] at v_1
          rw [vI_full (by omega), f3] at v_2
          rw [vI_full (by omega), f4] at v_3
          rw [vI_full (by omega), f5] at v_4
          clear f1 f2 f3 f4 f5 HVL HVF HA
          replace res_f0 := (heM.frozen res_0 (by simp only; omega)).trans res_f0
          replace e_f0 := (heM.frozen e_0 (by simp only; omega)).trans e_f0
          replace res_f1 := (heM.frozen res_1 (by simp only; omega)).trans res_f1
          replace e_f1 := (heM.frozen e_1 (by simp only; omega)).trans e_f1
          replace res_f2 := (heM.frozen res_2 (by simp only; omega)).trans res_f2
          replace e_f2 := (heM.frozen e_2 (by simp only; omega)).trans e_f2
          replace res_f3 := (heM.frozen res_3 (by simp only; omega)).trans res_f3
          replace e_f3 := (heM.frozen e_3 (by simp only; omega)).trans e_f3
          replace res_f4 := (heM.frozen res_4 (by simp only; omega)).trans res_f4
          replace e_f4 := (heM.frozen e_4 (by simp only; omega)).trans e_f4
          replace res_f5 := (heM.frozen res_5 (by simp only; omega)).trans res_f5
          replace e_f5 := (heM.frozen e_5 (by simp only; omega)).trans e_f5
          replace res_f6 := (heM.frozen res_6 (by simp only; omega)).trans res_f6
          replace e_f6 := (heM.frozen e_6 (by simp only; omega)).trans e_f6
          replace res_0 := heM.cell res_0 (by simp only; omega)
          replace e_0 := heM.cell e_0 (by simp only; omega)
          replace res_1 := heM.cell res_1 (by simp only; omega)
          replace e_1 := heM.cell e_1 (by simp only; omega)
          replace res_2 := heM.cell res_2 (by simp only; omega)
          replace e_2 := heM.cell e_2 (by simp only; omega)
          replace res_3 := heM.cell res_3 (by simp only; omega)
          replace e_3 := heM.cell e_3 (by simp only; omega)
          replace res_4 := heM.cell res_4 (by simp only; omega)
          replace e_4 := heM.cell e_4 (by simp only; omega)
          replace res_5 := heM.cell res_5 (by simp only; omega)
          replace e_5 := heM.cell e_5 (by simp only; omega)
          replace res_6 := heM.cell res_6 (by simp only; omega)
          replace e_6 := heM.cell e_6 (by simp only; omega)
          obtain ⟨vk, hvk⟩ : ∃ z, rdKey PS (K : Int) = z := ⟨_, rfl⟩
          rw [hvk] at v_0
          obtain ⟨vc, hvc⟩ : ∃ z, rdCh PS (K : Int) = z := ⟨_, rfl⟩
          rw [hvc] at v_1
          obtain ⟨vt, hvt⟩ : ∃ z, rdTo PS (K : Int) = z := ⟨_, rfl⟩
          rw [hvt] at v_2
          obtain ⟨va, hva⟩ : ∃ z, rdAmt PS (K : Int) = z := ⟨_, rfl⟩
          rw [hva] at v_3
          obtain ⟨vf, hvf⟩ : ∃ z, rdFee PS (K : Int) = z := ⟨_, rfl⟩
          rw [hvf] at v_4
          obtain ⟨LW, hLW⟩ : ∃ LW, PS[N - 1]? = some LW := ⟨_, List.getElem?_eq_getElem (by rw [HNN.out]; omega)⟩
          obtain ⟨pg2, hpgA, -, -, hpc, -⟩ := Own.form p (by omega)
          have hpg : pg2 = pg := by injection hpgA with h; injection h with h; exact h.symm
          subst hpg
          have hpx : wr.cell? ⟨pg2, N - 1, none⟩ = some (.string (bstr LW)) := (hpc (N - 1) (by omega)).trans (by rw [strs, List.getElem?_map, hLW]; rfl)
          have hlast : PS.getLast? = some LW := by rw [List.getLast?_eq_getElem?, HNN.out]; exact hLW
          obtain ⟨N1, hN1e⟩ : ∃ N1, N = N1 + 1 := ⟨N - 1, by omega⟩
          subst hN1e
          have cw : IntKind.i64.wrap ((N1 : Int)) = (N1 : Int) := IntWalk.i64_in _ (by omega)
          have i0 : (0 : Int) ≤ (N1 : Int) := by omega
          have i1 : (N1 : Int) < (N1 : Int) + 1 := by omega
          replace hpx : wr.cell? ⟨pg2, N1, none⟩ = some (.string (bstr LW)) := hpx
          obtain ⟨Y, hY⟩ : ∃ Y, (PS.getLast? == some yesW) = Y := ⟨_, rfl⟩
          have hcy : ((bstr LW).toList == (bstr yesW).toList) = Y := by
            rw [← hY, hlast]
            by_cases hy : LW = yesW
            · rw [eq_yes hy]; simp [hy]
            · rw [eq_no hy]; simp [hy]
          rw [show (bstr yesW).toList = [121, 101, 115] by rw [ByteArray.toList_eq, bstr_list]; rfl] at hcy
          have HR : Hid (∀ k key ch to amt fee y, isEvt s.data.toList k key ch to amt fee y → (K : Int) = k ∧ vk = key ∧ vc = ch ∧ vt = to ∧ va = amt ∧ vf = fee ∧ Y = y) := Lib.hid (by
            intro k key ch to amt fee y h
            have h0 := isEvt_last h
            have h1 := isEvt_read h
            rw [HPE.out] at h0
            rw [HPE.out, HK.out] at h1
            obtain ⟨rfl, h2, h3, h4, h5, h6, h7⟩ := h1
            exact ⟨rfl, hvk.symm.trans h2, hvc.symm.trans h3, hvt.symm.trans h4, hva.symm.trans h5, hvf.symm.trans h6, hY.symm.trans h0⟩)
          clear hpgA hpc hLW hlast hvk hvc hvt hva hvf hY p
          go_upto_region 19 with fail
          have he1 : Eff (w2.heap.size) (w2.heap.size + 1) wr (wr.setCell ⟨w2.heap.size, 1, none⟩ (.int .i64 vk)) := eff_set _ _ _ _
          replace res_f0 := (he1.frozen res_0 (by simp only; omega)).trans res_f0
          replace res_f1 := (he1.frozen res_1 (by simp only; omega)).trans res_f1
          replace res_f2 := (he1.frozen res_2 (by simp only; omega)).trans res_f2
          replace res_f3 := (he1.frozen res_3 (by simp only; omega)).trans res_f3
          replace res_f4 := (he1.frozen res_4 (by simp only; omega)).trans res_f4
          replace res_f5 := (he1.frozen res_5 (by simp only; omega)).trans res_f5
          replace res_f6 := (he1.frozen res_6 (by simp only; omega)).trans res_f6
          replace e_f0 := set_frozen (p := ⟨w2.heap.size, 1, none⟩) e_f0 (.int .i64 vk)
          replace e_f1 := set_frozen (p := ⟨w2.heap.size, 1, none⟩) e_f1 (.int .i64 vk)
          replace e_f2 := set_frozen (p := ⟨w2.heap.size, 1, none⟩) e_f2 (.int .i64 vk)
          replace e_f3 := set_frozen (p := ⟨w2.heap.size, 1, none⟩) e_f3 (.int .i64 vk)
          replace e_f4 := set_frozen (p := ⟨w2.heap.size, 1, none⟩) e_f4 (.int .i64 vk)
          replace e_f5 := set_frozen (p := ⟨w2.heap.size, 1, none⟩) e_f5 (.int .i64 vk)
          replace e_f6 := set_frozen (p := ⟨w2.heap.size, 1, none⟩) e_f6 (.int .i64 vk)
          replace res_0 := he1.cell res_0 (by simp only; omega)
          replace res_1 := he1.cell res_1 (by simp only; omega)
          replace res_2 := he1.cell res_2 (by simp only; omega)
          replace res_3 := he1.cell res_3 (by simp only; omega)
          replace res_4 := he1.cell res_4 (by simp only; omega)
          replace res_5 := he1.cell res_5 (by simp only; omega)
          replace res_6 := he1.cell res_6 (by simp only; omega)
          replace e_0 := set_other (b' := w2.heap.size) (o' := 1) e_0 (.int .i64 vk) (.inr (by omega))
          replace e_1 := set_same e_1 (.int .i64 vk)
          replace e_2 := set_other (b' := w2.heap.size) (o' := 1) e_2 (.int .i64 vk) (.inr (by omega))
          replace e_3 := set_other (b' := w2.heap.size) (o' := 1) e_3 (.int .i64 vk) (.inr (by omega))
          replace e_4 := set_other (b' := w2.heap.size) (o' := 1) e_4 (.int .i64 vk) (.inr (by omega))
          replace e_5 := set_other (b' := w2.heap.size) (o' := 1) e_5 (.int .i64 vk) (.inr (by omega))
          replace e_6 := set_other (b' := w2.heap.size) (o' := 1) e_6 (.int .i64 vk) (.inr (by omega))
          replace v_0 := he1.cell v_0 (by simp only; omega)
          replace v_1 := he1.cell v_1 (by simp only; omega)
          replace v_2 := he1.cell v_2 (by simp only; omega)
          replace v_3 := he1.cell v_3 (by simp only; omega)
          replace v_4 := he1.cell v_4 (by simp only; omega)
          replace hpx := he1.cell hpx (by simp only; omega)
          have hz1 : wr.heap.size ≤ (wr.setCell ⟨w2.heap.size, 1, none⟩ (.int .i64 vk)).heap.size := he1.size
          generalize (wr.setCell ⟨w2.heap.size, 1, none⟩ (.int .i64 vk)) = z1 at *
          have b1 : Below W.heap.size W z1 := hbQ.trans (he1.below hbQ.size (by omega))
          go_upto_region 20 with fail
          have he2 : Eff (w2.heap.size) (w2.heap.size + 1) z1 (z1.setCell ⟨w2.heap.size, 2, none⟩ (.int .i64 vc)) := eff_set _ _ _ _
          replace res_f0 := (he2.frozen res_0 (by simp only; omega)).trans res_f0
          replace res_f1 := (he2.frozen res_1 (by simp only; omega)).trans res_f1
          replace res_f2 := (he2.frozen res_2 (by simp only; omega)).trans res_f2
          replace res_f3 := (he2.frozen res_3 (by simp only; omega)).trans res_f3
          replace res_f4 := (he2.frozen res_4 (by simp only; omega)).trans res_f4
          replace res_f5 := (he2.frozen res_5 (by simp only; omega)).trans res_f5
          replace res_f6 := (he2.frozen res_6 (by simp only; omega)).trans res_f6
          replace e_f0 := set_frozen (p := ⟨w2.heap.size, 2, none⟩) e_f0 (.int .i64 vc)
          replace e_f1 := set_frozen (p := ⟨w2.heap.size, 2, none⟩) e_f1 (.int .i64 vc)
          replace e_f2 := set_frozen (p := ⟨w2.heap.size, 2, none⟩) e_f2 (.int .i64 vc)
          replace e_f3 := set_frozen (p := ⟨w2.heap.size, 2, none⟩) e_f3 (.int .i64 vc)
          replace e_f4 := set_frozen (p := ⟨w2.heap.size, 2, none⟩) e_f4 (.int .i64 vc)
          replace e_f5 := set_frozen (p := ⟨w2.heap.size, 2, none⟩) e_f5 (.int .i64 vc)
          replace e_f6 := set_frozen (p := ⟨w2.heap.size, 2, none⟩) e_f6 (.int .i64 vc)
          replace res_0 := he2.cell res_0 (by simp only; omega)
          replace res_1 := he2.cell res_1 (by simp only; omega)
          replace res_2 := he2.cell res_2 (by simp only; omega)
          replace res_3 := he2.cell res_3 (by simp only; omega)
          replace res_4 := he2.cell res_4 (by simp only; omega)
          replace res_5 := he2.cell res_5 (by simp only; omega)
          replace res_6 := he2.cell res_6 (by simp only; omega)
          replace e_0 := set_other (b' := w2.heap.size) (o' := 2) e_0 (.int .i64 vc) (.inr (by omega))
          replace e_1 := set_other (b' := w2.heap.size) (o' := 2) e_1 (.int .i64 vc) (.inr (by omega))
          replace e_2 := set_same e_2 (.int .i64 vc)
          replace e_3 := set_other (b' := w2.heap.size) (o' := 2) e_3 (.int .i64 vc) (.inr (by omega))
          replace e_4 := set_other (b' := w2.heap.size) (o' := 2) e_4 (.int .i64 vc) (.inr (by omega))
          replace e_5 := set_other (b' := w2.heap.size) (o' := 2) e_5 (.int .i64 vc) (.inr (by omega))
          replace e_6 := set_other (b' := w2.heap.size) (o' := 2) e_6 (.int .i64 vc) (.inr (by omega))
          replace v_0 := he2.cell v_0 (by simp only; omega)
          replace v_1 := he2.cell v_1 (by simp only; omega)
          replace v_2 := he2.cell v_2 (by simp only; omega)
          replace v_3 := he2.cell v_3 (by simp only; omega)
          replace v_4 := he2.cell v_4 (by simp only; omega)
          replace hpx := he2.cell hpx (by simp only; omega)
          have hz2 : z1.heap.size ≤ (z1.setCell ⟨w2.heap.size, 2, none⟩ (.int .i64 vc)).heap.size := he2.size
          generalize (z1.setCell ⟨w2.heap.size, 2, none⟩ (.int .i64 vc)) = z2 at *
          have b2 : Below W.heap.size W z2 := b1.trans (he2.below b1.size (by omega))
          go_upto_region 21 with fail
          have he3 : Eff (w2.heap.size) (w2.heap.size + 1) z2 (z2.setCell ⟨w2.heap.size, 3, none⟩ (.int .i64 vt)) := eff_set _ _ _ _
          replace res_f0 := (he3.frozen res_0 (by simp only; omega)).trans res_f0
          replace res_f1 := (he3.frozen res_1 (by simp only; omega)).trans res_f1
          replace res_f2 := (he3.frozen res_2 (by simp only; omega)).trans res_f2
          replace res_f3 := (he3.frozen res_3 (by simp only; omega)).trans res_f3
          replace res_f4 := (he3.frozen res_4 (by simp only; omega)).trans res_f4
          replace res_f5 := (he3.frozen res_5 (by simp only; omega)).trans res_f5
          replace res_f6 := (he3.frozen res_6 (by simp only; omega)).trans res_f6
          replace e_f0 := set_frozen (p := ⟨w2.heap.size, 3, none⟩) e_f0 (.int .i64 vt)
          replace e_f1 := set_frozen (p := ⟨w2.heap.size, 3, none⟩) e_f1 (.int .i64 vt)
          replace e_f2 := set_frozen (p := ⟨w2.heap.size, 3, none⟩) e_f2 (.int .i64 vt)
          replace e_f3 := set_frozen (p := ⟨w2.heap.size, 3, none⟩) e_f3 (.int .i64 vt)
          replace e_f4 := set_frozen (p := ⟨w2.heap.size, 3, none⟩) e_f4 (.int .i64 vt)
          replace e_f5 := set_frozen (p := ⟨w2.heap.size, 3, none⟩) e_f5 (.int .i64 vt)
          replace e_f6 := set_frozen (p := ⟨w2.heap.size, 3, none⟩) e_f6 (.int .i64 vt)
          replace res_0 := he3.cell res_0 (by simp only; omega)
          replace res_1 := he3.cell res_1 (by simp only; omega)
          replace res_2 := he3.cell res_2 (by simp only; omega)
          replace res_3 := he3.cell res_3 (by simp only; omega)
          replace res_4 := he3.cell res_4 (by simp only; omega)
          replace res_5 := he3.cell res_5 (by simp only; omega)
          replace res_6 := he3.cell res_6 (by simp only; omega)
          replace e_0 := set_other (b' := w2.heap.size) (o' := 3) e_0 (.int .i64 vt) (.inr (by omega))
          replace e_1 := set_other (b' := w2.heap.size) (o' := 3) e_1 (.int .i64 vt) (.inr (by omega))
          replace e_2 := set_other (b' := w2.heap.size) (o' := 3) e_2 (.int .i64 vt) (.inr (by omega))
          replace e_3 := set_same e_3 (.int .i64 vt)
          replace e_4 := set_other (b' := w2.heap.size) (o' := 3) e_4 (.int .i64 vt) (.inr (by omega))
          replace e_5 := set_other (b' := w2.heap.size) (o' := 3) e_5 (.int .i64 vt) (.inr (by omega))
          replace e_6 := set_other (b' := w2.heap.size) (o' := 3) e_6 (.int .i64 vt) (.inr (by omega))
          replace v_0 := he3.cell v_0 (by simp only; omega)
          replace v_1 := he3.cell v_1 (by simp only; omega)
          replace v_2 := he3.cell v_2 (by simp only; omega)
          replace v_3 := he3.cell v_3 (by simp only; omega)
          replace v_4 := he3.cell v_4 (by simp only; omega)
          replace hpx := he3.cell hpx (by simp only; omega)
          have hz3 : z2.heap.size ≤ (z2.setCell ⟨w2.heap.size, 3, none⟩ (.int .i64 vt)).heap.size := he3.size
          generalize (z2.setCell ⟨w2.heap.size, 3, none⟩ (.int .i64 vt)) = z3 at *
          have b3 : Below W.heap.size W z3 := b2.trans (he3.below b2.size (by omega))
          go_upto_region 22 with fail
          have he4 : Eff (w2.heap.size) (w2.heap.size + 1) z3 (z3.setCell ⟨w2.heap.size, 4, none⟩ (.int .i64 va)) := eff_set _ _ _ _
          replace res_f0 := (he4.frozen res_0 (by simp only; omega)).trans res_f0
          replace res_f1 := (he4.frozen res_1 (by simp only; omega)).trans res_f1
          replace res_f2 := (he4.frozen res_2 (by simp only; omega)).trans res_f2
          replace res_f3 := (he4.frozen res_3 (by simp only; omega)).trans res_f3
          replace res_f4 := (he4.frozen res_4 (by simp only; omega)).trans res_f4
          replace res_f5 := (he4.frozen res_5 (by simp only; omega)).trans res_f5
          replace res_f6 := (he4.frozen res_6 (by simp only; omega)).trans res_f6
          replace e_f0 := set_frozen (p := ⟨w2.heap.size, 4, none⟩) e_f0 (.int .i64 va)
          replace e_f1 := set_frozen (p := ⟨w2.heap.size, 4, none⟩) e_f1 (.int .i64 va)
          replace e_f2 := set_frozen (p := ⟨w2.heap.size, 4, none⟩) e_f2 (.int .i64 va)
          replace e_f3 := set_frozen (p := ⟨w2.heap.size, 4, none⟩) e_f3 (.int .i64 va)
          replace e_f4 := set_frozen (p := ⟨w2.heap.size, 4, none⟩) e_f4 (.int .i64 va)
          replace e_f5 := set_frozen (p := ⟨w2.heap.size, 4, none⟩) e_f5 (.int .i64 va)
          replace e_f6 := set_frozen (p := ⟨w2.heap.size, 4, none⟩) e_f6 (.int .i64 va)
          replace res_0 := he4.cell res_0 (by simp only; omega)
          replace res_1 := he4.cell res_1 (by simp only; omega)
          replace res_2 := he4.cell res_2 (by simp only; omega)
          replace res_3 := he4.cell res_3 (by simp only; omega)
          replace res_4 := he4.cell res_4 (by simp only; omega)
          replace res_5 := he4.cell res_5 (by simp only; omega)
          replace res_6 := he4.cell res_6 (by simp only; omega)
          replace e_0 := set_other (b' := w2.heap.size) (o' := 4) e_0 (.int .i64 va) (.inr (by omega))
          replace e_1 := set_other (b' := w2.heap.size) (o' := 4) e_1 (.int .i64 va) (.inr (by omega))
          replace e_2 := set_other (b' := w2.heap.size) (o' := 4) e_2 (.int .i64 va) (.inr (by omega))
          replace e_3 := set_other (b' := w2.heap.size) (o' := 4) e_3 (.int .i64 va) (.inr (by omega))
          replace e_4 := set_same e_4 (.int .i64 va)
          replace e_5 := set_other (b' := w2.heap.size) (o' := 4) e_5 (.int .i64 va) (.inr (by omega))
          replace e_6 := set_other (b' := w2.heap.size) (o' := 4) e_6 (.int .i64 va) (.inr (by omega))
          replace v_0 := he4.cell v_0 (by simp only; omega)
          replace v_1 := he4.cell v_1 (by simp only; omega)
          replace v_2 := he4.cell v_2 (by simp only; omega)
          replace v_3 := he4.cell v_3 (by simp only; omega)
          replace v_4 := he4.cell v_4 (by simp only; omega)
          replace hpx := he4.cell hpx (by simp only; omega)
          have hz4 : z3.heap.size ≤ (z3.setCell ⟨w2.heap.size, 4, none⟩ (.int .i64 va)).heap.size := he4.size
          generalize (z3.setCell ⟨w2.heap.size, 4, none⟩ (.int .i64 va)) = z4 at *
          have b4 : Below W.heap.size W z4 := b3.trans (he4.below b3.size (by omega))
          go_upto_region 23 with fail
          have he5 : Eff (w2.heap.size) (w2.heap.size + 1) z4 (z4.setCell ⟨w2.heap.size, 5, none⟩ (.int .i64 vf)) := eff_set _ _ _ _
          replace res_f0 := (he5.frozen res_0 (by simp only; omega)).trans res_f0
          replace res_f1 := (he5.frozen res_1 (by simp only; omega)).trans res_f1
          replace res_f2 := (he5.frozen res_2 (by simp only; omega)).trans res_f2
          replace res_f3 := (he5.frozen res_3 (by simp only; omega)).trans res_f3
          replace res_f4 := (he5.frozen res_4 (by simp only; omega)).trans res_f4
          replace res_f5 := (he5.frozen res_5 (by simp only; omega)).trans res_f5
          replace res_f6 := (he5.frozen res_6 (by simp only; omega)).trans res_f6
          replace e_f0 := set_frozen (p := ⟨w2.heap.size, 5, none⟩) e_f0 (.int .i64 vf)
          replace e_f1 := set_frozen (p := ⟨w2.heap.size, 5, none⟩) e_f1 (.int .i64 vf)
          replace e_f2 := set_frozen (p := ⟨w2.heap.size, 5, none⟩) e_f2 (.int .i64 vf)
          replace e_f3 := set_frozen (p := ⟨w2.heap.size, 5, none⟩) e_f3 (.int .i64 vf)
          replace e_f4 := set_frozen (p := ⟨w2.heap.size, 5, none⟩) e_f4 (.int .i64 vf)
          replace e_f5 := set_frozen (p := ⟨w2.heap.size, 5, none⟩) e_f5 (.int .i64 vf)
          replace e_f6 := set_frozen (p := ⟨w2.heap.size, 5, none⟩) e_f6 (.int .i64 vf)
          replace res_0 := he5.cell res_0 (by simp only; omega)
          replace res_1 := he5.cell res_1 (by simp only; omega)
          replace res_2 := he5.cell res_2 (by simp only; omega)
          replace res_3 := he5.cell res_3 (by simp only; omega)
          replace res_4 := he5.cell res_4 (by simp only; omega)
          replace res_5 := he5.cell res_5 (by simp only; omega)
          replace res_6 := he5.cell res_6 (by simp only; omega)
          replace e_0 := set_other (b' := w2.heap.size) (o' := 5) e_0 (.int .i64 vf) (.inr (by omega))
          replace e_1 := set_other (b' := w2.heap.size) (o' := 5) e_1 (.int .i64 vf) (.inr (by omega))
          replace e_2 := set_other (b' := w2.heap.size) (o' := 5) e_2 (.int .i64 vf) (.inr (by omega))
          replace e_3 := set_other (b' := w2.heap.size) (o' := 5) e_3 (.int .i64 vf) (.inr (by omega))
          replace e_4 := set_other (b' := w2.heap.size) (o' := 5) e_4 (.int .i64 vf) (.inr (by omega))
          replace e_5 := set_same e_5 (.int .i64 vf)
          replace e_6 := set_other (b' := w2.heap.size) (o' := 5) e_6 (.int .i64 vf) (.inr (by omega))
          replace v_0 := he5.cell v_0 (by simp only; omega)
          replace v_1 := he5.cell v_1 (by simp only; omega)
          replace v_2 := he5.cell v_2 (by simp only; omega)
          replace v_3 := he5.cell v_3 (by simp only; omega)
          replace v_4 := he5.cell v_4 (by simp only; omega)
          replace hpx := he5.cell hpx (by simp only; omega)
          have hz5 : z4.heap.size ≤ (z4.setCell ⟨w2.heap.size, 5, none⟩ (.int .i64 vf)).heap.size := he5.size
          generalize (z4.setCell ⟨w2.heap.size, 5, none⟩ (.int .i64 vf)) = z5 at *
          have b5 : Below W.heap.size W z5 := b4.trans (he5.below b4.size (by omega))
          go_upto_region 24 with fail
          have he6 : Eff (w2.heap.size) (w2.heap.size + 1) z5 (z5.setCell ⟨w2.heap.size, 6, none⟩ (.bool Y)) := eff_set _ _ _ _
          replace res_f0 := (he6.frozen res_0 (by simp only; omega)).trans res_f0
          replace res_f1 := (he6.frozen res_1 (by simp only; omega)).trans res_f1
          replace res_f2 := (he6.frozen res_2 (by simp only; omega)).trans res_f2
          replace res_f3 := (he6.frozen res_3 (by simp only; omega)).trans res_f3
          replace res_f4 := (he6.frozen res_4 (by simp only; omega)).trans res_f4
          replace res_f5 := (he6.frozen res_5 (by simp only; omega)).trans res_f5
          replace res_f6 := (he6.frozen res_6 (by simp only; omega)).trans res_f6
          replace e_f0 := set_frozen (p := ⟨w2.heap.size, 6, none⟩) e_f0 (.bool Y)
          replace e_f1 := set_frozen (p := ⟨w2.heap.size, 6, none⟩) e_f1 (.bool Y)
          replace e_f2 := set_frozen (p := ⟨w2.heap.size, 6, none⟩) e_f2 (.bool Y)
          replace e_f3 := set_frozen (p := ⟨w2.heap.size, 6, none⟩) e_f3 (.bool Y)
          replace e_f4 := set_frozen (p := ⟨w2.heap.size, 6, none⟩) e_f4 (.bool Y)
          replace e_f5 := set_frozen (p := ⟨w2.heap.size, 6, none⟩) e_f5 (.bool Y)
          replace e_f6 := set_frozen (p := ⟨w2.heap.size, 6, none⟩) e_f6 (.bool Y)
          replace res_0 := he6.cell res_0 (by simp only; omega)
          replace res_1 := he6.cell res_1 (by simp only; omega)
          replace res_2 := he6.cell res_2 (by simp only; omega)
          replace res_3 := he6.cell res_3 (by simp only; omega)
          replace res_4 := he6.cell res_4 (by simp only; omega)
          replace res_5 := he6.cell res_5 (by simp only; omega)
          replace res_6 := he6.cell res_6 (by simp only; omega)
          replace e_0 := set_other (b' := w2.heap.size) (o' := 6) e_0 (.bool Y) (.inr (by omega))
          replace e_1 := set_other (b' := w2.heap.size) (o' := 6) e_1 (.bool Y) (.inr (by omega))
          replace e_2 := set_other (b' := w2.heap.size) (o' := 6) e_2 (.bool Y) (.inr (by omega))
          replace e_3 := set_other (b' := w2.heap.size) (o' := 6) e_3 (.bool Y) (.inr (by omega))
          replace e_4 := set_other (b' := w2.heap.size) (o' := 6) e_4 (.bool Y) (.inr (by omega))
          replace e_5 := set_other (b' := w2.heap.size) (o' := 6) e_5 (.bool Y) (.inr (by omega))
          replace e_6 := set_same e_6 (.bool Y)
          replace v_0 := he6.cell v_0 (by simp only; omega)
          replace v_1 := he6.cell v_1 (by simp only; omega)
          replace v_2 := he6.cell v_2 (by simp only; omega)
          replace v_3 := he6.cell v_3 (by simp only; omega)
          replace v_4 := he6.cell v_4 (by simp only; omega)
          replace hpx := he6.cell hpx (by simp only; omega)
          have hz6 : z5.heap.size ≤ (z5.setCell ⟨w2.heap.size, 6, none⟩ (.bool Y)).heap.size := he6.size
          generalize (z5.setCell ⟨w2.heap.size, 6, none⟩ (.bool Y)) = z6 at *
          have b6 : Below W.heap.size W z6 := b5.trans (he6.below b5.size (by omega))
          clear hpx
          clear v_0 v_1 v_2 v_3 v_4
          by_cases hs0 : s.data.toList = []
          · skip
            have hem : (s.toList.isEmpty) = true := by rw [ByteArray.toList_eq, hs0]; rfl
            have hem2 : (s.toList == (ByteArray.mk #[]).toList) = true := by rw [ByteArray.toList_eq, ByteArray.toList_eq, hs0]; rfl
            have hem3 : s.toList = [] := by rw [ByteArray.toList_eq, hs0]
            have HS0 := Lib.hid hs0
            clear hs0
            go_wp2_with fail
            have r0 : (((((((z6.setCell ⟨W.heap.size, 0, none⟩ (.int .i64 0)).setCell ⟨W.heap.size, 1, none⟩ (.int .i64 0)).setCell ⟨W.heap.size, 2, none⟩ (.int .i64 0)).setCell ⟨W.heap.size, 3, none⟩ (.int .i64 0)).setCell ⟨W.heap.size, 4, none⟩ (.int .i64 0)).setCell ⟨W.heap.size, 5, none⟩ (.int .i64 0)).setCell ⟨W.heap.size, 6, none⟩ (.bool false)).cell? ⟨W.heap.size, 0, none⟩ = some (.int .i64 0) := set_other (set_other (set_other (set_other (set_other (set_other (set_same (res_0) _) _ (.inr (by omega))) _ (.inr (by omega))) _ (.inr (by omega))) _ (.inr (by omega))) _ (.inr (by omega))) _ (.inr (by omega))
            have r1 : (((((((z6.setCell ⟨W.heap.size, 0, none⟩ (.int .i64 0)).setCell ⟨W.heap.size, 1, none⟩ (.int .i64 0)).setCell ⟨W.heap.size, 2, none⟩ (.int .i64 0)).setCell ⟨W.heap.size, 3, none⟩ (.int .i64 0)).setCell ⟨W.heap.size, 4, none⟩ (.int .i64 0)).setCell ⟨W.heap.size, 5, none⟩ (.int .i64 0)).setCell ⟨W.heap.size, 6, none⟩ (.bool false)).cell? ⟨W.heap.size, 1, none⟩ = some (.int .i64 0) := set_other (set_other (set_other (set_other (set_other (set_same (set_other (res_1) _ (.inr (by omega))) _) _ (.inr (by omega))) _ (.inr (by omega))) _ (.inr (by omega))) _ (.inr (by omega))) _ (.inr (by omega))
            have r2 : (((((((z6.setCell ⟨W.heap.size, 0, none⟩ (.int .i64 0)).setCell ⟨W.heap.size, 1, none⟩ (.int .i64 0)).setCell ⟨W.heap.size, 2, none⟩ (.int .i64 0)).setCell ⟨W.heap.size, 3, none⟩ (.int .i64 0)).setCell ⟨W.heap.size, 4, none⟩ (.int .i64 0)).setCell ⟨W.heap.size, 5, none⟩ (.int .i64 0)).setCell ⟨W.heap.size, 6, none⟩ (.bool false)).cell? ⟨W.heap.size, 2, none⟩ = some (.int .i64 0) := set_other (set_other (set_other (set_other (set_same (set_other (set_other (res_2) _ (.inr (by omega))) _ (.inr (by omega))) _) _ (.inr (by omega))) _ (.inr (by omega))) _ (.inr (by omega))) _ (.inr (by omega))
            have r3 : (((((((z6.setCell ⟨W.heap.size, 0, none⟩ (.int .i64 0)).setCell ⟨W.heap.size, 1, none⟩ (.int .i64 0)).setCell ⟨W.heap.size, 2, none⟩ (.int .i64 0)).setCell ⟨W.heap.size, 3, none⟩ (.int .i64 0)).setCell ⟨W.heap.size, 4, none⟩ (.int .i64 0)).setCell ⟨W.heap.size, 5, none⟩ (.int .i64 0)).setCell ⟨W.heap.size, 6, none⟩ (.bool false)).cell? ⟨W.heap.size, 3, none⟩ = some (.int .i64 0) := set_other (set_other (set_other (set_same (set_other (set_other (set_other (res_3) _ (.inr (by omega))) _ (.inr (by omega))) _ (.inr (by omega))) _) _ (.inr (by omega))) _ (.inr (by omega))) _ (.inr (by omega))
            have r4 : (((((((z6.setCell ⟨W.heap.size, 0, none⟩ (.int .i64 0)).setCell ⟨W.heap.size, 1, none⟩ (.int .i64 0)).setCell ⟨W.heap.size, 2, none⟩ (.int .i64 0)).setCell ⟨W.heap.size, 3, none⟩ (.int .i64 0)).setCell ⟨W.heap.size, 4, none⟩ (.int .i64 0)).setCell ⟨W.heap.size, 5, none⟩ (.int .i64 0)).setCell ⟨W.heap.size, 6, none⟩ (.bool false)).cell? ⟨W.heap.size, 4, none⟩ = some (.int .i64 0) := set_other (set_other (set_same (set_other (set_other (set_other (set_other (res_4) _ (.inr (by omega))) _ (.inr (by omega))) _ (.inr (by omega))) _ (.inr (by omega))) _) _ (.inr (by omega))) _ (.inr (by omega))
            have r5 : (((((((z6.setCell ⟨W.heap.size, 0, none⟩ (.int .i64 0)).setCell ⟨W.heap.size, 1, none⟩ (.int .i64 0)).setCell ⟨W.heap.size, 2, none⟩ (.int .i64 0)).setCell ⟨W.heap.size, 3, none⟩ (.int .i64 0)).setCell ⟨W.heap.size, 4, none⟩ (.int .i64 0)).setCell ⟨W.heap.size, 5, none⟩ (.int .i64 0)).setCell ⟨W.heap.size, 6, none⟩ (.bool false)).cell? ⟨W.heap.size, 5, none⟩ = some (.int .i64 0) := set_other (set_same (set_other (set_other (set_other (set_other (set_other (res_5) _ (.inr (by omega))) _ (.inr (by omega))) _ (.inr (by omega))) _ (.inr (by omega))) _ (.inr (by omega))) _) _ (.inr (by omega))
            have r6 : (((((((z6.setCell ⟨W.heap.size, 0, none⟩ (.int .i64 0)).setCell ⟨W.heap.size, 1, none⟩ (.int .i64 0)).setCell ⟨W.heap.size, 2, none⟩ (.int .i64 0)).setCell ⟨W.heap.size, 3, none⟩ (.int .i64 0)).setCell ⟨W.heap.size, 4, none⟩ (.int .i64 0)).setCell ⟨W.heap.size, 5, none⟩ (.int .i64 0)).setCell ⟨W.heap.size, 6, none⟩ (.bool false)).cell? ⟨W.heap.size, 6, none⟩ = some (.bool false) := set_same (set_other (set_other (set_other (set_other (set_other (set_other (res_6) _ (.inr (by omega))) _ (.inr (by omega))) _ (.inr (by omega))) _ (.inr (by omega))) _ (.inr (by omega))) _ (.inr (by omega))) _
            refine bodyPost_ret (v := .tuple #[.agg #[.int .i64 0, .int .i64 0, .int .i64 0, .int .i64 0, .int .i64 0, .int .i64 0, .bool false], .bool false]) (by simp [results, Tryd.results16, go_sem, r0, r1, r2, r3, r4, r5, r6]) rfl ?_
            exact rdEvt_no (fun k key ch to amt fee y h => evT_ne h.1 (h.2.trans HS0.out)) (((((((b6.setCell (Nat.le_refl _) _).setCell (Nat.le_refl _) _).setCell (Nat.le_refl _) _).setCell (Nat.le_refl _) _).setCell (Nat.le_refl _) _).setCell (Nat.le_refl _) _).setCell (Nat.le_refl _) _)
          · skip
            have hem : (s.toList.isEmpty) = false := by rw [ByteArray.toList_eq]; cases h : s.data.toList with | nil => exact absurd h hs0 | cons => rfl
            have hem2 : (s.toList == (ByteArray.mk #[]).toList) = false := by rw [ByteArray.toList_eq, ByteArray.toList_eq]; simpa using hs0
            have hem3 : ¬ s.toList = [] := by rw [ByteArray.toList_eq]; exact hs0
            have HS0 := Lib.hid hs0
            clear hs0
            obtain ⟨TX, hTX⟩ : ∃ t, evT (K : Int) vk vc vt va vf Y = t := ⟨_, rfl⟩
            have HTX := Lib.hid hTX
            clear hTX
            go_wp2_with fail
            refine (spec_EventText (K : Int) vk vc vt va vf Y z6).mono ?_
            rintro e z7 ⟨rfl, hb⟩
            rw [HTX.out]
            have he7 : Eff 0 0 z6 z7 := Eff.of hb
            have hz7 : z6.heap.size ≤ z7.heap.size := he7.size
            have b7 : Below W.heap.size W z7 := b6.trans (he7.below b6.size (by omega))
            replace res_f0 := (he7.frozen res_0 (by simp only; omega)).trans res_f0
            replace res_f1 := (he7.frozen res_1 (by simp only; omega)).trans res_f1
            replace res_f2 := (he7.frozen res_2 (by simp only; omega)).trans res_f2
            replace res_f3 := (he7.frozen res_3 (by simp only; omega)).trans res_f3
            replace res_f4 := (he7.frozen res_4 (by simp only; omega)).trans res_f4
            replace res_f5 := (he7.frozen res_5 (by simp only; omega)).trans res_f5
            replace res_f6 := (he7.frozen res_6 (by simp only; omega)).trans res_f6
            replace e_f0 := (he7.frozen e_0 (by simp only; omega)).trans e_f0
            replace e_f1 := (he7.frozen e_1 (by simp only; omega)).trans e_f1
            replace e_f2 := (he7.frozen e_2 (by simp only; omega)).trans e_f2
            replace e_f3 := (he7.frozen e_3 (by simp only; omega)).trans e_f3
            replace e_f4 := (he7.frozen e_4 (by simp only; omega)).trans e_f4
            replace e_f5 := (he7.frozen e_5 (by simp only; omega)).trans e_f5
            replace e_f6 := (he7.frozen e_6 (by simp only; omega)).trans e_f6
            replace res_0 := he7.cell res_0 (by simp only; omega)
            replace res_1 := he7.cell res_1 (by simp only; omega)
            replace res_2 := he7.cell res_2 (by simp only; omega)
            replace res_3 := he7.cell res_3 (by simp only; omega)
            replace res_4 := he7.cell res_4 (by simp only; omega)
            replace res_5 := he7.cell res_5 (by simp only; omega)
            replace res_6 := he7.cell res_6 (by simp only; omega)
            replace e_0 := he7.cell e_0 (by simp only; omega)
            replace e_1 := he7.cell e_1 (by simp only; omega)
            replace e_2 := he7.cell e_2 (by simp only; omega)
            replace e_3 := he7.cell e_3 (by simp only; omega)
            replace e_4 := he7.cell e_4 (by simp only; omega)
            replace e_5 := he7.cell e_5 (by simp only; omega)
            replace e_6 := he7.cell e_6 (by simp only; omega)
            clear hb
            by_cases hq : TX = s.data.toList
            · skip
              have hcm := cmp_same hq
              have HQ := Lib.hid hq
              clear hq
              go_wp2_with fail
              have r0 : (((((((z7.setCell ⟨W.heap.size, 0, none⟩ (.int .i64 (K : Int))).setCell ⟨W.heap.size, 1, none⟩ (.int .i64 vk)).setCell ⟨W.heap.size, 2, none⟩ (.int .i64 vc)).setCell ⟨W.heap.size, 3, none⟩ (.int .i64 vt)).setCell ⟨W.heap.size, 4, none⟩ (.int .i64 va)).setCell ⟨W.heap.size, 5, none⟩ (.int .i64 vf)).setCell ⟨W.heap.size, 6, none⟩ (.bool Y)).cell? ⟨W.heap.size, 0, none⟩ = some (.int .i64 (K : Int)) := set_other (set_other (set_other (set_other (set_other (set_other (set_same (res_0) _) _ (.inr (by omega))) _ (.inr (by omega))) _ (.inr (by omega))) _ (.inr (by omega))) _ (.inr (by omega))) _ (.inr (by omega))
              have r1 : (((((((z7.setCell ⟨W.heap.size, 0, none⟩ (.int .i64 (K : Int))).setCell ⟨W.heap.size, 1, none⟩ (.int .i64 vk)).setCell ⟨W.heap.size, 2, none⟩ (.int .i64 vc)).setCell ⟨W.heap.size, 3, none⟩ (.int .i64 vt)).setCell ⟨W.heap.size, 4, none⟩ (.int .i64 va)).setCell ⟨W.heap.size, 5, none⟩ (.int .i64 vf)).setCell ⟨W.heap.size, 6, none⟩ (.bool Y)).cell? ⟨W.heap.size, 1, none⟩ = some (.int .i64 vk) := set_other (set_other (set_other (set_other (set_other (set_same (set_other (res_1) _ (.inr (by omega))) _) _ (.inr (by omega))) _ (.inr (by omega))) _ (.inr (by omega))) _ (.inr (by omega))) _ (.inr (by omega))
              have r2 : (((((((z7.setCell ⟨W.heap.size, 0, none⟩ (.int .i64 (K : Int))).setCell ⟨W.heap.size, 1, none⟩ (.int .i64 vk)).setCell ⟨W.heap.size, 2, none⟩ (.int .i64 vc)).setCell ⟨W.heap.size, 3, none⟩ (.int .i64 vt)).setCell ⟨W.heap.size, 4, none⟩ (.int .i64 va)).setCell ⟨W.heap.size, 5, none⟩ (.int .i64 vf)).setCell ⟨W.heap.size, 6, none⟩ (.bool Y)).cell? ⟨W.heap.size, 2, none⟩ = some (.int .i64 vc) := set_other (set_other (set_other (set_other (set_same (set_other (set_other (res_2) _ (.inr (by omega))) _ (.inr (by omega))) _) _ (.inr (by omega))) _ (.inr (by omega))) _ (.inr (by omega))) _ (.inr (by omega))
              have r3 : (((((((z7.setCell ⟨W.heap.size, 0, none⟩ (.int .i64 (K : Int))).setCell ⟨W.heap.size, 1, none⟩ (.int .i64 vk)).setCell ⟨W.heap.size, 2, none⟩ (.int .i64 vc)).setCell ⟨W.heap.size, 3, none⟩ (.int .i64 vt)).setCell ⟨W.heap.size, 4, none⟩ (.int .i64 va)).setCell ⟨W.heap.size, 5, none⟩ (.int .i64 vf)).setCell ⟨W.heap.size, 6, none⟩ (.bool Y)).cell? ⟨W.heap.size, 3, none⟩ = some (.int .i64 vt) := set_other (set_other (set_other (set_same (set_other (set_other (set_other (res_3) _ (.inr (by omega))) _ (.inr (by omega))) _ (.inr (by omega))) _) _ (.inr (by omega))) _ (.inr (by omega))) _ (.inr (by omega))
              have r4 : (((((((z7.setCell ⟨W.heap.size, 0, none⟩ (.int .i64 (K : Int))).setCell ⟨W.heap.size, 1, none⟩ (.int .i64 vk)).setCell ⟨W.heap.size, 2, none⟩ (.int .i64 vc)).setCell ⟨W.heap.size, 3, none⟩ (.int .i64 vt)).setCell ⟨W.heap.size, 4, none⟩ (.int .i64 va)).setCell ⟨W.heap.size, 5, none⟩ (.int .i64 vf)).setCell ⟨W.heap.size, 6, none⟩ (.bool Y)).cell? ⟨W.heap.size, 4, none⟩ = some (.int .i64 va) := set_other (set_other (set_same (set_other (set_other (set_other (set_other (res_4) _ (.inr (by omega))) _ (.inr (by omega))) _ (.inr (by omega))) _ (.inr (by omega))) _) _ (.inr (by omega))) _ (.inr (by omega))
              have r5 : (((((((z7.setCell ⟨W.heap.size, 0, none⟩ (.int .i64 (K : Int))).setCell ⟨W.heap.size, 1, none⟩ (.int .i64 vk)).setCell ⟨W.heap.size, 2, none⟩ (.int .i64 vc)).setCell ⟨W.heap.size, 3, none⟩ (.int .i64 vt)).setCell ⟨W.heap.size, 4, none⟩ (.int .i64 va)).setCell ⟨W.heap.size, 5, none⟩ (.int .i64 vf)).setCell ⟨W.heap.size, 6, none⟩ (.bool Y)).cell? ⟨W.heap.size, 5, none⟩ = some (.int .i64 vf) := set_other (set_same (set_other (set_other (set_other (set_other (set_other (res_5) _ (.inr (by omega))) _ (.inr (by omega))) _ (.inr (by omega))) _ (.inr (by omega))) _ (.inr (by omega))) _) _ (.inr (by omega))
              have r6 : (((((((z7.setCell ⟨W.heap.size, 0, none⟩ (.int .i64 (K : Int))).setCell ⟨W.heap.size, 1, none⟩ (.int .i64 vk)).setCell ⟨W.heap.size, 2, none⟩ (.int .i64 vc)).setCell ⟨W.heap.size, 3, none⟩ (.int .i64 vt)).setCell ⟨W.heap.size, 4, none⟩ (.int .i64 va)).setCell ⟨W.heap.size, 5, none⟩ (.int .i64 vf)).setCell ⟨W.heap.size, 6, none⟩ (.bool Y)).cell? ⟨W.heap.size, 6, none⟩ = some (.bool Y) := set_same (set_other (set_other (set_other (set_other (set_other (set_other (res_6) _ (.inr (by omega))) _ (.inr (by omega))) _ (.inr (by omega))) _ (.inr (by omega))) _ (.inr (by omega))) _ (.inr (by omega))) _
              refine bodyPost_ret (v := .tuple #[.agg #[.int .i64 (K : Int), .int .i64 vk, .int .i64 vc, .int .i64 vt, .int .i64 va, .int .i64 vf, .bool Y], .bool true]) (by simp [results, Tryd.results16, go_sem, r0, r1, r2, r3, r4, r5, r6]) rfl ?_
              exact rdEvt_yes ⟨evT_ok (by have h1 := HQ.out; have h2 := HS0.out; intro h; exact h2 (h1.symm.trans h)) HTX.out, HTX.out.trans HQ.out⟩ (((((((b7.setCell (Nat.le_refl _) _).setCell (Nat.le_refl _) _).setCell (Nat.le_refl _) _).setCell (Nat.le_refl _) _).setCell (Nat.le_refl _) _).setCell (Nat.le_refl _) _).setCell (Nat.le_refl _) _)
            · skip
              have hcm := cmp_other hq
              have HQ := Lib.hid hq
              clear hq
              go_wp2_with fail
              have r0 : (((((((z7.setCell ⟨W.heap.size, 0, none⟩ (.int .i64 0)).setCell ⟨W.heap.size, 1, none⟩ (.int .i64 0)).setCell ⟨W.heap.size, 2, none⟩ (.int .i64 0)).setCell ⟨W.heap.size, 3, none⟩ (.int .i64 0)).setCell ⟨W.heap.size, 4, none⟩ (.int .i64 0)).setCell ⟨W.heap.size, 5, none⟩ (.int .i64 0)).setCell ⟨W.heap.size, 6, none⟩ (.bool false)).cell? ⟨W.heap.size, 0, none⟩ = some (.int .i64 0) := set_other (set_other (set_other (set_other (set_other (set_other (set_same (res_0) _) _ (.inr (by omega))) _ (.inr (by omega))) _ (.inr (by omega))) _ (.inr (by omega))) _ (.inr (by omega))) _ (.inr (by omega))
              have r1 : (((((((z7.setCell ⟨W.heap.size, 0, none⟩ (.int .i64 0)).setCell ⟨W.heap.size, 1, none⟩ (.int .i64 0)).setCell ⟨W.heap.size, 2, none⟩ (.int .i64 0)).setCell ⟨W.heap.size, 3, none⟩ (.int .i64 0)).setCell ⟨W.heap.size, 4, none⟩ (.int .i64 0)).setCell ⟨W.heap.size, 5, none⟩ (.int .i64 0)).setCell ⟨W.heap.size, 6, none⟩ (.bool false)).cell? ⟨W.heap.size, 1, none⟩ = some (.int .i64 0) := set_other (set_other (set_other (set_other (set_other (set_same (set_other (res_1) _ (.inr (by omega))) _) _ (.inr (by omega))) _ (.inr (by omega))) _ (.inr (by omega))) _ (.inr (by omega))) _ (.inr (by omega))
              have r2 : (((((((z7.setCell ⟨W.heap.size, 0, none⟩ (.int .i64 0)).setCell ⟨W.heap.size, 1, none⟩ (.int .i64 0)).setCell ⟨W.heap.size, 2, none⟩ (.int .i64 0)).setCell ⟨W.heap.size, 3, none⟩ (.int .i64 0)).setCell ⟨W.heap.size, 4, none⟩ (.int .i64 0)).setCell ⟨W.heap.size, 5, none⟩ (.int .i64 0)).setCell ⟨W.heap.size, 6, none⟩ (.bool false)).cell? ⟨W.heap.size, 2, none⟩ = some (.int .i64 0) := set_other (set_other (set_other (set_other (set_same (set_other (set_other (res_2) _ (.inr (by omega))) _ (.inr (by omega))) _) _ (.inr (by omega))) _ (.inr (by omega))) _ (.inr (by omega))) _ (.inr (by omega))
              have r3 : (((((((z7.setCell ⟨W.heap.size, 0, none⟩ (.int .i64 0)).setCell ⟨W.heap.size, 1, none⟩ (.int .i64 0)).setCell ⟨W.heap.size, 2, none⟩ (.int .i64 0)).setCell ⟨W.heap.size, 3, none⟩ (.int .i64 0)).setCell ⟨W.heap.size, 4, none⟩ (.int .i64 0)).setCell ⟨W.heap.size, 5, none⟩ (.int .i64 0)).setCell ⟨W.heap.size, 6, none⟩ (.bool false)).cell? ⟨W.heap.size, 3, none⟩ = some (.int .i64 0) := set_other (set_other (set_other (set_same (set_other (set_other (set_other (res_3) _ (.inr (by omega))) _ (.inr (by omega))) _ (.inr (by omega))) _) _ (.inr (by omega))) _ (.inr (by omega))) _ (.inr (by omega))
              have r4 : (((((((z7.setCell ⟨W.heap.size, 0, none⟩ (.int .i64 0)).setCell ⟨W.heap.size, 1, none⟩ (.int .i64 0)).setCell ⟨W.heap.size, 2, none⟩ (.int .i64 0)).setCell ⟨W.heap.size, 3, none⟩ (.int .i64 0)).setCell ⟨W.heap.size, 4, none⟩ (.int .i64 0)).setCell ⟨W.heap.size, 5, none⟩ (.int .i64 0)).setCell ⟨W.heap.size, 6, none⟩ (.bool false)).cell? ⟨W.heap.size, 4, none⟩ = some (.int .i64 0) := set_other (set_other (set_same (set_other (set_other (set_other (set_other (res_4) _ (.inr (by omega))) _ (.inr (by omega))) _ (.inr (by omega))) _ (.inr (by omega))) _) _ (.inr (by omega))) _ (.inr (by omega))
              have r5 : (((((((z7.setCell ⟨W.heap.size, 0, none⟩ (.int .i64 0)).setCell ⟨W.heap.size, 1, none⟩ (.int .i64 0)).setCell ⟨W.heap.size, 2, none⟩ (.int .i64 0)).setCell ⟨W.heap.size, 3, none⟩ (.int .i64 0)).setCell ⟨W.heap.size, 4, none⟩ (.int .i64 0)).setCell ⟨W.heap.size, 5, none⟩ (.int .i64 0)).setCell ⟨W.heap.size, 6, none⟩ (.bool false)).cell? ⟨W.heap.size, 5, none⟩ = some (.int .i64 0) := set_other (set_same (set_other (set_other (set_other (set_other (set_other (res_5) _ (.inr (by omega))) _ (.inr (by omega))) _ (.inr (by omega))) _ (.inr (by omega))) _ (.inr (by omega))) _) _ (.inr (by omega))
              have r6 : (((((((z7.setCell ⟨W.heap.size, 0, none⟩ (.int .i64 0)).setCell ⟨W.heap.size, 1, none⟩ (.int .i64 0)).setCell ⟨W.heap.size, 2, none⟩ (.int .i64 0)).setCell ⟨W.heap.size, 3, none⟩ (.int .i64 0)).setCell ⟨W.heap.size, 4, none⟩ (.int .i64 0)).setCell ⟨W.heap.size, 5, none⟩ (.int .i64 0)).setCell ⟨W.heap.size, 6, none⟩ (.bool false)).cell? ⟨W.heap.size, 6, none⟩ = some (.bool false) := set_same (set_other (set_other (set_other (set_other (set_other (set_other (res_6) _ (.inr (by omega))) _ (.inr (by omega))) _ (.inr (by omega))) _ (.inr (by omega))) _ (.inr (by omega))) _ (.inr (by omega))) _
              refine bodyPost_ret (v := .tuple #[.agg #[.int .i64 0, .int .i64 0, .int .i64 0, .int .i64 0, .int .i64 0, .int .i64 0, .bool false], .bool false]) (by simp [results, Tryd.results16, go_sem, r0, r1, r2, r3, r4, r5, r6]) rfl ?_
              exact rdEvt_no (fun k key ch to amt fee y h => by obtain ⟨h1, h2, h3, h4, h5, h6, h7⟩ := HR.out k key ch to amt fee y h; have ht := h.2; rw [← h1, ← h2, ← h3, ← h4, ← h5, ← h6, ← h7, HTX.out] at ht; exact HQ.out ht) (((((((b7.setCell (Nat.le_refl _) _).setCell (Nat.le_refl _) _).setCell (Nat.le_refl _) _).setCell (Nat.le_refl _) _).setCell (Nat.le_refl _) _).setCell (Nat.le_refl _) _).setCell (Nat.le_refl _) _)
end Go.Proofs.YtnjdmmdbminmoaaDoor
