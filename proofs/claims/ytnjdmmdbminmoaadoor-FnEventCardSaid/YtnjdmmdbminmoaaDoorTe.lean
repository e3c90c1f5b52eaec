/- TextEvent of the program. -/
import Derived.Test.YtnjdmmdbminmoaaDoorTe0
import Derived.IntWalk
namespace Go.Proofs.YtnjdmmdbminmoaaDoor
open Go.RowKit
set_option maxHeartbeats 8000000 in
set_option maxRecDepth 100000 in
theorem impl_TextEvent (s : ByteArray) (hs : s.size ≤ 1048576) (W : World) (hT : PTab W) (hE : PErr W) (hM : PMax W) : Calls Tryd.prog 17 #[.string s] W (RdEvt s.data.toList W) := by
  have hplen := parts_len s.data.toList
  have hsl : s.data.toList.length = s.size := by simp
  obtain ⟨P0, PR, hPS⟩ : ∃ p r, parts s.data.toList = p :: r := by
    rcases h : parts s.data.toList with _ | ⟨p, r⟩
    · exact absurd h (parts_ne _)
    · exact ⟨p, r, rfl⟩
  obtain ⟨PS, hPe⟩ : ∃ PS, parts s.data.toList = PS := ⟨_, rfl⟩
  have hPm := parts_mem_len s.data.toList
  rw [hPe] at hPm hplen
  have hP0 : PS[0]? = some P0 := by rw [← hPe, hPS]; rfl
  have hKd : kdP PS = (kindN P0 12 : Int) := by rw [← hPe, hPS]; rfl
  have HPE := Lib.hid hPe
  have HPM := Lib.hid hPm
  have HP0 := Lib.hid hP0
  have HKD := Lib.hid hKd
  clear hPS hPe hPm hP0 hKd
  go_enter Tryd.func17, Tryd.ntmps17
  go_wp2_with fail
  have he1 : Eff 0 0 W (W.alloc (.cells #[.int .i64 0, .int .i64 0, .int .i64 0, .int .i64 0, .int .i64 0, .int .i64 0, .bool false] 32)) := Eff.alloc _ _
  have hs1 : (W.alloc (.cells #[.int .i64 0, .int .i64 0, .int .i64 0, .int .i64 0, .int .i64 0, .int .i64 0, .bool false] 32)).heap.size = W.heap.size + 1 := (by simp)
  have res_0 : (W.alloc (.cells #[.int .i64 0, .int .i64 0, .int .i64 0, .int .i64 0, .int .i64 0, .int .i64 0, .bool false] 32)).cell? ⟨W.heap.size, 0, none⟩ = some (.int .i64 0) := var_cell _ _ _ _ _ rfl
  have res_1 : (W.alloc (.cells #[.int .i64 0, .int .i64 0, .int .i64 0, .int .i64 0, .int .i64 0, .int .i64 0, .bool false] 32)).cell? ⟨W.heap.size, 1, none⟩ = some (.int .i64 0) := var_cell _ _ _ _ _ rfl
  have res_2 : (W.alloc (.cells #[.int .i64 0, .int .i64 0, .int .i64 0, .int .i64 0, .int .i64 0, .int .i64 0, .bool false] 32)).cell? ⟨W.heap.size, 2, none⟩ = some (.int .i64 0) := var_cell _ _ _ _ _ rfl
  have res_3 : (W.alloc (.cells #[.int .i64 0, .int .i64 0, .int .i64 0, .int .i64 0, .int .i64 0, .int .i64 0, .bool false] 32)).cell? ⟨W.heap.size, 3, none⟩ = some (.int .i64 0) := var_cell _ _ _ _ _ rfl
  have res_4 : (W.alloc (.cells #[.int .i64 0, .int .i64 0, .int .i64 0, .int .i64 0, .int .i64 0, .int .i64 0, .bool false] 32)).cell? ⟨W.heap.size, 4, none⟩ = some (.int .i64 0) := var_cell _ _ _ _ _ rfl
  have res_5 : (W.alloc (.cells #[.int .i64 0, .int .i64 0, .int .i64 0, .int .i64 0, .int .i64 0, .int .i64 0, .bool false] 32)).cell? ⟨W.heap.size, 5, none⟩ = some (.int .i64 0) := var_cell _ _ _ _ _ rfl
  have res_6 : (W.alloc (.cells #[.int .i64 0, .int .i64 0, .int .i64 0, .int .i64 0, .int .i64 0, .int .i64 0, .bool false] 32)).cell? ⟨W.heap.size, 6, none⟩ = some (.bool false) := var_cell _ _ _ _ _ rfl
  have res_f0 : (W.alloc (.cells #[.int .i64 0, .int .i64 0, .int .i64 0, .int .i64 0, .int .i64 0, .int .i64 0, .bool false] 32)).frozen? ⟨W.heap.size, 0, none⟩ = false := var_frozen _ _ _ _
  have res_f1 : (W.alloc (.cells #[.int .i64 0, .int .i64 0, .int .i64 0, .int .i64 0, .int .i64 0, .int .i64 0, .bool false] 32)).frozen? ⟨W.heap.size, 1, none⟩ = false := var_frozen _ _ _ _
  have res_f2 : (W.alloc (.cells #[.int .i64 0, .int .i64 0, .int .i64 0, .int .i64 0, .int .i64 0, .int .i64 0, .bool false] 32)).frozen? ⟨W.heap.size, 2, none⟩ = false := var_frozen _ _ _ _
  have res_f3 : (W.alloc (.cells #[.int .i64 0, .int .i64 0, .int .i64 0, .int .i64 0, .int .i64 0, .int .i64 0, .bool false] 32)).frozen? ⟨W.heap.size, 3, none⟩ = false := var_frozen _ _ _ _
  have res_f4 : (W.alloc (.cells #[.int .i64 0, .int .i64 0, .int .i64 0, .int .i64 0, .int .i64 0, .int .i64 0, .bool false] 32)).frozen? ⟨W.heap.size, 4, none⟩ = false := var_frozen _ _ _ _
  have res_f5 : (W.alloc (.cells #[.int .i64 0, .int .i64 0, .int .i64 0, .int .i64 0, .int .i64 0, .int .i64 0, .bool false] 32)).frozen? ⟨W.heap.size, 5, none⟩ = false := var_frozen _ _ _ _
  have res_f6 : (W.alloc (.cells #[.int .i64 0, .int .i64 0, .int .i64 0, .int .i64 0, .int .i64 0, .int .i64 0, .bool false] 32)).frozen? ⟨W.heap.size, 6, none⟩ = false := var_frozen _ _ _ _
  generalize (W.alloc (.cells #[.int .i64 0, .int .i64 0, .int .i64 0, .int .i64 0, .int .i64 0, .int .i64 0, .bool false] 32)) = w1 at *
  have hz1 : W.heap.size ≤ w1.heap.size := he1.size
  have b1 : Below W.heap.size W w1 := he1.below (Nat.le_refl _) (by omega)
  have res_l : W.heap.size < w1.heap.size := (by omega)
  clear hs1
  go_wp2_with fail
  refine (split_parts s hs w1 (hM.below b1)).mono ?_
  rintro e w2 ⟨N, hN, rfl, p, hb⟩
  rw [HPE.out] at hN p
  have he2 : Eff 0 0 w1 w2 := Eff.of hb
  have hz2 : w1.heap.size ≤ w2.heap.size := he2.size
  have b2 : Below W.heap.size W w2 := b1.trans (he2.below b1.size (by omega))
  replace res_f0 := (he2.frozen res_0 (by simp only; omega)).trans res_f0
  replace res_f1 := (he2.frozen res_1 (by simp only; omega)).trans res_f1
  replace res_f2 := (he2.frozen res_2 (by simp only; omega)).trans res_f2
  replace res_f3 := (he2.frozen res_3 (by simp only; omega)).trans res_f3
  replace res_f4 := (he2.frozen res_4 (by simp only; omega)).trans res_f4
  replace res_f5 := (he2.frozen res_5 (by simp only; omega)).trans res_f5
  replace res_f6 := (he2.frozen res_6 (by simp only; omega)).trans res_f6
  replace res_0 := he2.cell res_0 (by simp only; omega)
  replace res_1 := he2.cell res_1 (by simp only; omega)
  replace res_2 := he2.cell res_2 (by simp only; omega)
  replace res_3 := he2.cell res_3 (by simp only; omega)
  replace res_4 := he2.cell res_4 (by simp only; omega)
  replace res_5 := he2.cell res_5 (by simp only; omega)
  replace res_6 := he2.cell res_6 (by simp only; omega)
  replace res_l := Nat.lt_of_lt_of_le res_l hz2
  clear hb
  have hN1 : 1 ≤ N := by have := (List.getElem?_eq_some_iff.1 HP0.out).1; omega
  have hNl : N ≤ s.size + 1 := by omega
  have HNN := Lib.hid hN
  clear hN hplen hsl
  obtain ⟨pg, hpgA, -, -, hpc, -⟩ := Own.form p (by omega)
  have hpg : pg = w1.heap.size := by injection hpgA with h; injection h with h; exact h.symm
  subst hpg
  clear hpgA
  have hp0c : w2.cell? ⟨w1.heap.size, 0, none⟩ = some (.string (bstr P0)) := (hpc 0 (by omega)).trans (by rw [strs, List.getElem?_map, HP0.out]; rfl)
  have HPC := Lib.hid hpc
  clear hpc HPC
  have hp_l : w1.heap.size < w2.heap.size := by have := World.block_lt_of_cell? _ _ hp0c; exact this
  go_wp2_with fail
  have he3 : Eff 0 0 w2 (w2.alloc (.cells #[.int .i64 0, .int .i64 0, .int .i64 0, .int .i64 0, .int .i64 0, .int .i64 0, .bool false] 32)) := Eff.alloc _ _
  have hs3 : (w2.alloc (.cells #[.int .i64 0, .int .i64 0, .int .i64 0, .int .i64 0, .int .i64 0, .int .i64 0, .bool false] 32)).heap.size = w2.heap.size + 1 := (by simp)
  have e_0 : (w2.alloc (.cells #[.int .i64 0, .int .i64 0, .int .i64 0, .int .i64 0, .int .i64 0, .int .i64 0, .bool false] 32)).cell? ⟨w2.heap.size, 0, none⟩ = some (.int .i64 0) := var_cell _ _ _ _ _ rfl
  have e_1 : (w2.alloc (.cells #[.int .i64 0, .int .i64 0, .int .i64 0, .int .i64 0, .int .i64 0, .int .i64 0, .bool false] 32)).cell? ⟨w2.heap.size, 1, none⟩ = some (.int .i64 0) := var_cell _ _ _ _ _ rfl
  have e_2 : (w2.alloc (.cells #[.int .i64 0, .int .i64 0, .int .i64 0, .int .i64 0, .int .i64 0, .int .i64 0, .bool false] 32)).cell? ⟨w2.heap.size, 2, none⟩ = some (.int .i64 0) := var_cell _ _ _ _ _ rfl
  have e_3 : (w2.alloc (.cells #[.int .i64 0, .int .i64 0, .int .i64 0, .int .i64 0, .int .i64 0, .int .i64 0, .bool false] 32)).cell? ⟨w2.heap.size, 3, none⟩ = some (.int .i64 0) := var_cell _ _ _ _ _ rfl
  have e_4 : (w2.alloc (.cells #[.int .i64 0, .int .i64 0, .int .i64 0, .int .i64 0, .int .i64 0, .int .i64 0, .bool false] 32)).cell? ⟨w2.heap.size, 4, none⟩ = some (.int .i64 0) := var_cell _ _ _ _ _ rfl
  have e_5 : (w2.alloc (.cells #[.int .i64 0, .int .i64 0, .int .i64 0, .int .i64 0, .int .i64 0, .int .i64 0, .bool false] 32)).cell? ⟨w2.heap.size, 5, none⟩ = some (.int .i64 0) := var_cell _ _ _ _ _ rfl
  have e_6 : (w2.alloc (.cells #[.int .i64 0, .int .i64 0, .int .i64 0, .int .i64 0, .int .i64 0, .int .i64 0, .bool false] 32)).cell? ⟨w2.heap.size, 6, none⟩ = some (.bool false) := var_cell _ _ _ _ _ rfl
  have e_f0 : (w2.alloc (.cells #[.int .i64 0, .int .i64 0, .int .i64 0, .int .i64 0, .int .i64 0, .int .i64 0, .bool false] 32)).frozen? ⟨w2.heap.size, 0, none⟩ = false := var_frozen _ _ _ _
  have e_f1 : (w2.alloc (.cells #[.int .i64 0, .int .i64 0, .int .i64 0, .int .i64 0, .int .i64 0, .int .i64 0, .bool false] 32)).frozen? ⟨w2.heap.size, 1, none⟩ = false := var_frozen _ _ _ _
  have e_f2 : (w2.alloc (.cells #[.int .i64 0, .int .i64 0, .int .i64 0, .int .i64 0, .int .i64 0, .int .i64 0, .bool false] 32)).frozen? ⟨w2.heap.size, 2, none⟩ = false := var_frozen _ _ _ _
  have e_f3 : (w2.alloc (.cells #[.int .i64 0, .int .i64 0, .int .i64 0, .int .i64 0, .int .i64 0, .int .i64 0, .bool false] 32)).frozen? ⟨w2.heap.size, 3, none⟩ = false := var_frozen _ _ _ _
  have e_f4 : (w2.alloc (.cells #[.int .i64 0, .int .i64 0, .int .i64 0, .int .i64 0, .int .i64 0, .int .i64 0, .bool false] 32)).frozen? ⟨w2.heap.size, 4, none⟩ = false := var_frozen _ _ _ _
  have e_f5 : (w2.alloc (.cells #[.int .i64 0, .int .i64 0, .int .i64 0, .int .i64 0, .int .i64 0, .int .i64 0, .bool false] 32)).frozen? ⟨w2.heap.size, 5, none⟩ = false := var_frozen _ _ _ _
  have e_f6 : (w2.alloc (.cells #[.int .i64 0, .int .i64 0, .int .i64 0, .int .i64 0, .int .i64 0, .int .i64 0, .bool false] 32)).frozen? ⟨w2.heap.size, 6, none⟩ = false := var_frozen _ _ _ _
  generalize (w2.alloc (.cells #[.int .i64 0, .int .i64 0, .int .i64 0, .int .i64 0, .int .i64 0, .int .i64 0, .bool false] 32)) = w3 at *
  have hz3 : w2.heap.size ≤ w3.heap.size := he3.size
  have b3 : Below W.heap.size W w3 := b2.trans (he3.below b2.size (by omega))
  replace p := p.keep he3 (by omega)
  replace res_f0 := (he3.frozen res_0 (by simp only; omega)).trans res_f0
  replace res_f1 := (he3.frozen res_1 (by simp only; omega)).trans res_f1
  replace res_f2 := (he3.frozen res_2 (by simp only; omega)).trans res_f2
  replace res_f3 := (he3.frozen res_3 (by simp only; omega)).trans res_f3
  replace res_f4 := (he3.frozen res_4 (by simp only; omega)).trans res_f4
  replace res_f5 := (he3.frozen res_5 (by simp only; omega)).trans res_f5
  replace res_f6 := (he3.frozen res_6 (by simp only; omega)).trans res_f6
  replace res_0 := he3.cell res_0 (by simp only; omega)
  replace res_1 := he3.cell res_1 (by simp only; omega)
  replace res_2 := he3.cell res_2 (by simp only; omega)
  replace res_3 := he3.cell res_3 (by simp only; omega)
  replace res_4 := he3.cell res_4 (by simp only; omega)
  replace res_5 := he3.cell res_5 (by simp only; omega)
  replace res_6 := he3.cell res_6 (by simp only; omega)
  replace hp0c := he3.cell hp0c (by simp only; omega)
  replace res_l := Nat.lt_of_lt_of_le res_l hz3
  have e_l : w2.heap.size < w3.heap.size := (by omega)
  clear hs3
  have hEW : w2.heap.size < w3.heap.size := by omega
  refine (ev_split w3 (hM.below b3)).mono ?_
  rintro e wx ⟨rfl, hwx⟩
  subst hwx
  have he4 : Eff 0 0 w3 (w3.alloc (.cells #[.string ⟨#[]⟩, .string ⟨#[100, 101, 112, 111, 115, 105, 116]⟩, .string ⟨#[111, 112, 101, 110]⟩, .string ⟨#[99, 108, 111, 115, 101]⟩, .string ⟨#[112, 114, 105, 99, 101]⟩, .string ⟨#[97, 100, 109, 105, 116]⟩, .string ⟨#[102, 117, 108, 102, 105, 108, 108]⟩, .string ⟨#[102, 97, 105, 108]⟩, .string ⟨#[116, 105, 99, 107]⟩, .string ⟨#[108, 97, 117, 110, 99, 104]⟩, .string ⟨#[97, 114, 114, 105, 118, 101]⟩, .string ⟨#[108, 111, 115, 116]⟩] 9)) := Eff.alloc _ _
  have hwc := fun (i : Nat) (h : i < 12) => ev_at h w3 9
  have hs4 : (w3.alloc (.cells #[.string ⟨#[]⟩, .string ⟨#[100, 101, 112, 111, 115, 105, 116]⟩, .string ⟨#[111, 112, 101, 110]⟩, .string ⟨#[99, 108, 111, 115, 101]⟩, .string ⟨#[112, 114, 105, 99, 101]⟩, .string ⟨#[97, 100, 109, 105, 116]⟩, .string ⟨#[102, 117, 108, 102, 105, 108, 108]⟩, .string ⟨#[102, 97, 105, 108]⟩, .string ⟨#[116, 105, 99, 107]⟩, .string ⟨#[108, 97, 117, 110, 99, 104]⟩, .string ⟨#[97, 114, 114, 105, 118, 101]⟩, .string ⟨#[108, 111, 115, 116]⟩] 9)).heap.size = w3.heap.size + 1 := (by simp)
  generalize (w3.alloc (.cells #[.string ⟨#[]⟩, .string ⟨#[100, 101, 112, 111, 115, 105, 116]⟩, .string ⟨#[111, 112, 101, 110]⟩, .string ⟨#[99, 108, 111, 115, 101]⟩, .string ⟨#[112, 114, 105, 99, 101]⟩, .string ⟨#[97, 100, 109, 105, 116]⟩, .string ⟨#[102, 117, 108, 102, 105, 108, 108]⟩, .string ⟨#[102, 97, 105, 108]⟩, .string ⟨#[116, 105, 99, 107]⟩, .string ⟨#[108, 97, 117, 110, 99, 104]⟩, .string ⟨#[97, 114, 114, 105, 118, 101]⟩, .string ⟨#[108, 111, 115, 116]⟩] 9)) = w4 at *
  have hz4 : w3.heap.size ≤ w4.heap.size := he4.size
  have b4 : Below W.heap.size W w4 := b3.trans (he4.below b3.size (by omega))
  replace p := p.keep he4 (by omega)
  replace res_f0 := (he4.frozen res_0 (by simp only; omega)).trans res_f0
  replace res_f1 := (he4.frozen res_1 (by simp only; omega)).trans res_f1
  replace res_f2 := (he4.frozen res_2 (by simp only; omega)).trans res_f2
  replace res_f3 := (he4.frozen res_3 (by simp only; omega)).trans res_f3
  replace res_f4 := (he4.frozen res_4 (by simp only; omega)).trans res_f4
  replace res_f5 := (he4.frozen res_5 (by simp only; omega)).trans res_f5
  replace res_f6 := (he4.frozen res_6 (by simp only; omega)).trans res_f6
  replace e_f0 := (he4.frozen e_0 (by simp only; omega)).trans e_f0
  replace e_f1 := (he4.frozen e_1 (by simp only; omega)).trans e_f1
  replace e_f2 := (he4.frozen e_2 (by simp only; omega)).trans e_f2
  replace e_f3 := (he4.frozen e_3 (by simp only; omega)).trans e_f3
  replace e_f4 := (he4.frozen e_4 (by simp only; omega)).trans e_f4
  replace e_f5 := (he4.frozen e_5 (by simp only; omega)).trans e_f5
  replace e_f6 := (he4.frozen e_6 (by simp only; omega)).trans e_f6
  replace res_0 := he4.cell res_0 (by simp only; omega)
  replace res_1 := he4.cell res_1 (by simp only; omega)
  replace res_2 := he4.cell res_2 (by simp only; omega)
  replace res_3 := he4.cell res_3 (by simp only; omega)
  replace res_4 := he4.cell res_4 (by simp only; omega)
  replace res_5 := he4.cell res_5 (by simp only; omega)
  replace res_6 := he4.cell res_6 (by simp only; omega)
  replace hp0c := he4.cell hp0c (by simp only; omega)
  replace e_0 := he4.cell e_0 (by simp only; omega)
  replace e_1 := he4.cell e_1 (by simp only; omega)
  replace e_2 := he4.cell e_2 (by simp only; omega)
  replace e_3 := he4.cell e_3 (by simp only; omega)
  replace e_4 := he4.cell e_4 (by simp only; omega)
  replace e_5 := he4.cell e_5 (by simp only; omega)
  replace e_6 := he4.cell e_6 (by simp only; omega)
  replace res_l := Nat.lt_of_lt_of_le res_l hz4
  replace e_l := Nat.lt_of_lt_of_le e_l hz4
  clear hs4
  have HWC := Lib.hid hwc
  clear hwc
  have hw_l : w3.heap.size < w4.heap.size := by have := World.block_lt_of_cell? _ _ (HWC.out 0 (by omega)); exact this
  go_wp2_with fail
  have hEB : W.heap.size < w2.heap.size := by omega
  have hEB2 : w2.heap.size < w4.heap.size := by omega
  go_loopw [15] (fun vi wr => ∃ i : Nat, i ≤ 12 ∧ vi = .int .i64 (i : Int) ∧ Eff w2.heap.size (w2.heap.size + 1) w4 wr ∧ wr.cell? ⟨w2.heap.size, 0, none⟩ = some (.int .i64 (kindN P0 i : Int)) ∧ wr.cell? ⟨w2.heap.size, 1, none⟩ = some (.int .i64 0) ∧ wr.cell? ⟨w2.heap.size, 2, none⟩ = some (.int .i64 0) ∧ wr.cell? ⟨w2.heap.size, 3, none⟩ = some (.int .i64 0) ∧ wr.cell? ⟨w2.heap.size, 4, none⟩ = some (.int .i64 0) ∧ wr.cell? ⟨w2.heap.size, 5, none⟩ = some (.int .i64 0) ∧ wr.cell? ⟨w2.heap.size, 6, none⟩ = some (.bool false) ∧ wr.frozen? ⟨w2.heap.size, 0, none⟩ = false ∧ wr.frozen? ⟨w2.heap.size, 1, none⟩ = false ∧ wr.frozen? ⟨w2.heap.size, 2, none⟩ = false ∧ wr.frozen? ⟨w2.heap.size, 3, none⟩ = false ∧ wr.frozen? ⟨w2.heap.size, 4, none⟩ = false ∧ wr.frozen? ⟨w2.heap.size, 5, none⟩ = false ∧ wr.frozen? ⟨w2.heap.size, 6, none⟩ = false) (fun vi _ => 12 - (intOf vi).toNat)
  case atStart => exact ⟨0, by omega, rfl, Eff.refl _ _ _, e_0, e_1, e_2, e_3, e_4, e_5, e_6, e_f0, e_f1, e_f2, e_f3, e_f4, e_f5, e_f6⟩
  clear e_0 e_1 e_2 e_3 e_4 e_5 e_6 e_f0 e_f1 e_f2 e_f3 e_f4 e_f5 e_f6
  case round =>
    obtain ⟨i, hi, rfl, heL, e_0, e_1, e_2, e_3, e_4, e_5, e_6, e_f0, e_f1, e_f2, e_f3, e_f4, e_f5, e_f6⟩ := hrel
    have hzL := heL.size
    replace hp0c := heL.cell hp0c (by simp only; omega)
    by_cases hlt : i < 12
    · skip
      have hwi := heL.cell (HWC.out i hlt) (by simp only; omega)
      obtain ⟨Wi, hWi⟩ : ∃ x, evWs.getD i [] = x := ⟨_, rfl⟩
      rw [hWi] at hwi
      have HWI := Lib.hid hWi
      clear hWi
      have hs0 : (0 : Int) ≤ (i : Int) := by omega
      have hs5 : (i : Int) < 12 := by omega
      have hN0 : (0 : Int) < (N : Int) := by omega
      by_cases hq : Wi = P0
      · have hcm := eq_yes hq
        have hkn : kindN P0 (i + 1) = i := by rw [kindN, if_pos (by rw [← hq, ← HWI.out, List.getD_eq_getElem?_getD, List.getElem?_eq_getElem (show i < evWs.length from hlt)]; rfl)]
        have HKN := Lib.hid hkn
        clear hkn hq
        go_wp2_with fail
        go_roundw
        case rel =>
          have es := eff_set wr (w2.heap.size) 0 (.int .i64 (i : Int))
          refine ⟨i + 1, by omega, by go_num, heL.trans es, by rw [HKN.out]; exact set_same e_0 _, set_other e_1 _ (.inr (by omega)), set_other e_2 _ (.inr (by omega)), set_other e_3 _ (.inr (by omega)), set_other e_4 _ (.inr (by omega)), set_other e_5 _ (.inr (by omega)), set_other e_6 _ (.inr (by omega)), set_frozen e_f0 _, set_frozen e_f1 _, set_frozen e_f2 _, set_frozen e_f3 _, set_frozen e_f4 _, set_frozen e_f5 _, set_frozen e_f6 _⟩
        case measure => simp [intOf]; omega
      · have hcm := eq_no hq
        have hkn : kindN P0 (i + 1) = kindN P0 i := by rw [kindN, if_neg (fun h => hq (by rw [← HWI.out, List.getD_eq_getElem?_getD, h]; rfl))]
        have HKN := Lib.hid hkn
        clear hkn hq
        go_wp2_with fail
        go_roundw
        case rel => exact ⟨i + 1, by omega, by go_num, heL, by rw [HKN.out]; exact e_0, e_1, e_2, e_3, e_4, e_5, e_6, e_f0, e_f1, e_f2, e_f3, e_f4, e_f5, e_f6⟩
        case measure => simp [intOf]; omega
    · obtain rfl : i = 12 := by omega
      have hsq : ¬ ((12 : Nat) : Int) < 12 := by omega
      have hbW : Below W.heap.size W wr := b4.trans (heL.below b4.size (by omega))
      replace p := Own.keep p heL (by omega)
      replace res_f0 := (heL.frozen res_0 (by simp only; omega)).trans res_f0
      replace res_f1 := (heL.frozen res_1 (by simp only; omega)).trans res_f1
      replace res_f2 := (heL.frozen res_2 (by simp only; omega)).trans res_f2
      replace res_f3 := (heL.frozen res_3 (by simp only; omega)).trans res_f3
      replace res_f4 := (heL.frozen res_4 (by simp only; omega)).trans res_f4
      replace res_f5 := (heL.frozen res_5 (by simp only; omega)).trans res_f5
      replace res_f6 := (heL.frozen res_6 (by simp only; omega)).trans res_f6
      replace res_0 := heL.cell res_0 (by simp only; omega)
      replace res_1 := heL.cell res_1 (by simp only; omega)
      replace res_2 := heL.cell res_2 (by simp only; omega)
      replace res_3 := heL.cell res_3 (by simp only; omega)
      replace res_4 := heL.cell res_4 (by simp only; omega)
      replace res_5 := heL.cell res_5 (by simp only; omega)
      replace res_6 := heL.cell res_6 (by simp only; omega)
      obtain ⟨K, hK⟩ : ∃ K, kindN P0 12 = K := ⟨_, rfl⟩
      have hK11 : K ≤ 11 := by rw [← hK]; exact kindN_lt P0
      rw [hK] at e_0
      have HK : Hid (kdP PS = (K : Int)) := Lib.hid (by rw [HKD.out, hK])
      obtain ⟨n, hn⟩ : ∃ n, (offs (K : Int)).length = n := ⟨_, rfl⟩
      have hn5 : n ≤ 5 := by rw [← hn]; exact offs_len
      have HON := Lib.hid hn
      clear hK hn hp0c
      have q0 : (0 : Int) ≤ (K : Int) := by omega
      go_wp2_with fail
      refine (impl_numbers (K : Int) q0 (by omega) (w2.heap.size) wr e_0).mono ?_
      rintro e x1 ⟨An, rfl, np, hb⟩
      rw [HON.out] at np ⊢
      have he1 : Eff 0 0 wr x1 := Eff.of hb
      have hz1 : wr.heap.size ≤ x1.heap.size := he1.size
      have b1 : Below W.heap.size W x1 := hbW.trans (he1.below hbW.size (by omega))
      replace p := p.keep he1 (by omega)
      replace res_f0 := (he1.frozen res_0 (by simp only; omega)).trans res_f0
      replace res_f1 := (he1.frozen res_1 (by simp only; omega)).trans res_f1
      replace res_f2 := (he1.frozen res_2 (by simp only; omega)).trans res_f2
      replace res_f3 := (he1.frozen res_3 (by simp only; omega)).trans res_f3
      replace res_f4 := (he1.frozen res_4 (by simp only; omega)).trans res_f4
      replace res_f5 := (he1.frozen res_5 (by simp only; omega)).trans res_f5
      replace res_f6 := (he1.frozen res_6 (by simp only; omega)).trans res_f6
      replace e_f0 := (he1.frozen e_0 (by simp only; omega)).trans e_f0
      replace e_f1 := (he1.frozen e_1 (by simp only; omega)).trans e_f1
      replace e_f2 := (he1.frozen e_2 (by simp only; omega)).trans e_f2
      replace e_f3 := (he1.frozen e_3 (by simp only; omega)).trans e_f3
      replace e_f4 := (he1.frozen e_4 (by simp only; omega)).trans e_f4
      replace e_f5 := (he1.frozen e_5 (by simp only; omega)).trans e_f5
      replace e_f6 := (he1.frozen e_6 (by simp only; omega)).trans e_f6
      replace res_0 := he1.cell res_0 (by simp only; omega)
      replace res_1 := he1.cell res_1 (by simp only; omega)
      replace res_2 := he1.cell res_2 (by simp only; omega)
      replace res_3 := he1.cell res_3 (by simp only; omega)
      replace res_4 := he1.cell res_4 (by simp only; omega)
      replace res_5 := he1.cell res_5 (by simp only; omega)
      replace res_6 := he1.cell res_6 (by simp only; omega)
      replace e_0 := he1.cell e_0 (by simp only; omega)
      replace e_1 := he1.cell e_1 (by simp only; omega)
      replace e_2 := he1.cell e_2 (by simp only; omega)
      replace e_3 := he1.cell e_3 (by simp only; omega)
      replace e_4 := he1.cell e_4 (by simp only; omega)
      replace e_5 := he1.cell e_5 (by simp only; omega)
      replace e_6 := he1.cell e_6 (by simp only; omega)
      clear hb
      have hfl : ∀ o, 1 ≤ o → o ≤ 5 → x1.cell? ⟨w2.heap.size, o, none⟩ = some (.int .i64 (fldAt PS (offs (K : Int)) 0 o)) := by
        intro o h1 h2
        obtain rfl | rfl | rfl | rfl | rfl : o = 1 ∨ o = 2 ∨ o = 3 ∨ o = 4 ∨ o = 5 := by omega
        all_goals assumption
      have hff : ∀ o, 1 ≤ o → o ≤ 5 → x1.frozen? ⟨w2.heap.size, o, none⟩ = false := by
        intro o h1 h2
        obtain rfl | rfl | rfl | rfl | rfl : o = 1 ∨ o = 2 ∨ o = 3 ∨ o = 4 ∨ o = 5 := by omega
        all_goals assumption
      clear e_1 e_2 e_3 e_4 e_5 e_f1 e_f2 e_f3 e_f4 e_f5
      go_wp2_with fail
      have hEB3 : w2.heap.size < x1.heap.size := by omega
      obtain ⟨wo, rfl⟩ : ∃ x : World, x = wr := ⟨_, rfl⟩
      go_loopw [30] (fun vi wr => ∃ i : Nat, i ≤ n ∧ vi = .int .i64 (i : Int) ∧ Eff w2.heap.size (w2.heap.size + 1) x1 wr ∧ Hid (∀ o, 1 ≤ o → o ≤ 5 → wr.cell? ⟨w2.heap.size, o, none⟩ = some (.int .i64 (fldAt PS (offs (K : Int)) i o))) ∧ Hid (∀ o, 1 ≤ o → o ≤ 5 → wr.frozen? ⟨w2.heap.size, o, none⟩ = false) ∧ wr.cell? ⟨w2.heap.size, 0, none⟩ = some (.int .i64 (K : Int)) ∧ wr.cell? ⟨w2.heap.size, 6, none⟩ = some (.bool false) ∧ wr.frozen? ⟨w2.heap.size, 6, none⟩ = false) (fun vi _ => n - (intOf vi).toNat)
      case atStart => exact ⟨0, Nat.zero_le _, rfl, Eff.refl _ _ _, Lib.hid hfl, Lib.hid hff, e_0, e_6, e_f6⟩
      clear hfl hff e_0 e_6 e_f0 e_f6
      case round =>
        obtain ⟨i, hi, rfl, heM, HFL, HFF, e_0, e_6, e_f6⟩ := hrel
        have hzM := heM.size
        have hbQ : Below W.heap.size W wr := b1.trans (heM.below b1.size (by omega))
        replace p := Own.keep p heM (by omega)
        replace np := Own.keep np heM (by omega)
        by_cases hlt : i < n
        · skip
          obtain ⟨of, hof⟩ : ∃ of, (offs (K : Int))[i]? = some of := ⟨_, List.getElem?_eq_getElem (by rw [HON.out]; exact hlt)⟩
          obtain ⟨h15a, h15b⟩ := offs_in hof
          obtain ⟨pb, rfl, hp1, hp2, hpc, -⟩ := Own.form np (by omega)
          have hpi : wr.cell? ⟨pb, i, none⟩ = some (.pointer (some ⟨w2.heap.size, of, none⟩)) := (hpc i (by omega)).trans (by rw [ptrs, List.getElem?_map, hof]; rfl)
          have hs0 : (0 : Int) ≤ (i : Int) := by omega
          have hs1 : (i : Int) < (n : Int) := by omega
          have HOF := Lib.hid hof
          clear hpc hof
          have cw : IntKind.i64.wrap ((i : Int) + 1) = (i : Int) + 1 := IntWalk.i64_in _ (by omega)
          by_cases hlp : i + 1 < N
          · skip
            have hlp' : (i : Int) + 1 < (N : Int) := by omega
            have hs2 : (0 : Int) ≤ (i : Int) + 1 := by omega
            obtain ⟨X, hX⟩ : ∃ X, PS[i + 1]? = some X := ⟨_, List.getElem?_eq_getElem (by rw [HNN.out]; exact hlp)⟩
            obtain ⟨pg, hpgA, -, -, hpc, -⟩ := Own.form p (by omega)
            have hpg : pg = w1.heap.size := by injection hpgA with h; injection h with h; exact h.symm
            subst hpg
            have hpx : wr.cell? ⟨w1.heap.size, i + 1, none⟩ = some (.string (bstr X)) := (hpc (i + 1) (by omega)).trans (by rw [strs, List.getElem?_map, hX]; rfl)
            have hXl : X.length ≤ s.size := by have := HPM.out X (List.mem_of_getElem? hX); simpa using this
            obtain ⟨z, hz⟩ : ∃ z, (tNum X).getD 0 = z := ⟨_, rfl⟩
            obtain ⟨bz, hbz⟩ : ∃ b, (tNum X).isSome = b := ⟨_, rfl⟩
            have hrd : rdPc PS (i + 1) = z := by rw [← hz]; unfold rdPc; rw [hX]
            have HRD := Lib.hid hrd
            have HTN := Lib.hid (And.intro hz hbz)
            clear hpgA hpc hX hz hbz hrd
            have hfc := HFL.out of h15a h15b
            have hfz := HFF.out of h15a h15b
            go_wp2_with fail
            refine (impl_TextNum (bstr X) (by rw [bstr_size]; omega) wr (hT.below hbQ) (hE.below hbQ)).mono ?_
            rintro e y1 hrd
            obtain ⟨rfl, hb⟩ := hrd
            rw [bstr_list, HTN.out.1, HTN.out.2]
            have he1 : Eff 0 0 wr y1 := Eff.of hb
            have hz1 : wr.heap.size ≤ y1.heap.size := he1.size
            have b1 : Below W.heap.size W y1 := hbQ.trans (he1.below hbQ.size (by omega))
            replace hfz := (he1.frozen hfc (by simp only; omega)).trans hfz
            replace e_f6 := (he1.frozen e_6 (by simp only; omega)).trans e_f6
            replace hfc := he1.cell hfc (by simp only; omega)
            replace e_0 := he1.cell e_0 (by simp only; omega)
            replace e_6 := he1.cell e_6 (by simp only; omega)
            clear hb
            go_wp2_with fail
            go_roundw
            case rel =>
              have es := eff_set y1 (w2.heap.size) of (.int .i64 z)
              have E2 : Eff w2.heap.size (w2.heap.size + 1) x1 (y1.setCell ⟨w2.heap.size, of, none⟩ (.int .i64 z)) := (heM.trans he1.anyD').trans es
              refine ⟨i + 1, by omega, by go_num, E2, Lib.hid (fun o h1 h2 => ?_), Lib.hid (fun o h1 h2 => set_frozen ((he1.frozen (HFL.out o h1 h2) (.inr (Nat.zero_le _))).trans (HFF.out o h1 h2)) _), set_other e_0 _ (.inr (by omega)), set_other e_6 _ (.inr (by omega)), set_frozen e_f6 _⟩
              by_cases ho : o = of
              · subst ho
                rw [fldAt, if_pos ⟨HOF.out, by rw [HNN.out]; exact hlp⟩, HRD.out]
                exact set_same hfc _
              · rw [fldAt, if_neg (fun h => ho (by have := HOF.out.symm.trans h.1; injection this with h; exact h.symm))]
                exact set_other (he1.cell (HFL.out o h1 h2) (.inr (Nat.zero_le _))) _ (.inr ho)
            case measure => simp [intOf]; omega
          · skip
            have hlp' : ¬ (i : Int) + 1 < (N : Int) := by omega
            go_wp2_with fail
            go_roundw
            case rel => exact ⟨i + 1, by omega, by go_num, heM, Lib.hid (fun o h1 h2 => by rw [fldAt, if_neg (fun h => by have := h.2; rw [HNN.out] at this; omega)]; exact HFL.out o h1 h2), HFF, e_0, e_6, e_f6⟩
            case measure => simp [intOf]; omega
        · obtain rfl : n = i := by omega
          have hsq2 : ¬ (n : Int) < (n : Int) := by omega
          obtain ⟨f1, f2, f3, f4, f5⟩ := fld_rd PS (k := (K : Int)) q0 (by omega)
          rw [HON.out] at f1 f2 f3 f4 f5
          have e_1 := HFL.out 1 (by omega) (by omega)
          have e_2 := HFL.out 2 (by omega) (by omega)
          have e_3 := HFL.out 3 (by omega) (by omega)
          have e_4 := HFL.out 4 (by omega) (by omega)
          have e_5 := HFL.out 5 (by omega) (by omega)
          rw [f1] at e_1
          rw [f2] at e_2
          rw [f3] at e_3
          rw [f4] at e_4
          rw [f5] at e_5
          clear f1 f2 f3 f4 f5 np HFL HFF
          replace res_f0 := (heM.frozen res_0 (by simp only; omega)).trans res_f0
          replace res_f1 := (heM.frozen res_1 (by simp only; omega)).trans res_f1
          replace res_f2 := (heM.frozen res_2 (by simp only; omega)).trans res_f2
          replace res_f3 := (heM.frozen res_3 (by simp only; omega)).trans res_f3
          replace res_f4 := (heM.frozen res_4 (by simp only; omega)).trans res_f4
          replace res_f5 := (heM.frozen res_5 (by simp only; omega)).trans res_f5
          replace res_f6 := (heM.frozen res_6 (by simp only; omega)).trans res_f6
          replace res_0 := heM.cell res_0 (by simp only; omega)
          replace res_1 := heM.cell res_1 (by simp only; omega)
          replace res_2 := heM.cell res_2 (by simp only; omega)
          replace res_3 := heM.cell res_3 (by simp only; omega)
          replace res_4 := heM.cell res_4 (by simp only; omega)
          replace res_5 := heM.cell res_5 (by simp only; omega)
          replace res_6 := heM.cell res_6 (by simp only; omega)
          obtain ⟨vk, hvk⟩ : ∃ z, rdKey PS (K : Int) = z := ⟨_, rfl⟩
          obtain ⟨vc, hvc⟩ : ∃ z, rdCh PS (K : Int) = z := ⟨_, rfl⟩
          obtain ⟨vt, hvt⟩ : ∃ z, rdTo PS (K : Int) = z := ⟨_, rfl⟩
          obtain ⟨va, hva⟩ : ∃ z, rdAmt PS (K : Int) = z := ⟨_, rfl⟩
          obtain ⟨vf, hvf⟩ : ∃ z, rdFee PS (K : Int) = z := ⟨_, rfl⟩
          rw [hvk] at e_1
          rw [hvc] at e_2
          rw [hvt] at e_3
          rw [hva] at e_4
          rw [hvf] at e_5
          obtain ⟨LW, hLW⟩ : ∃ LW, PS[N - 1]? = some LW := ⟨_, List.getElem?_eq_getElem (by rw [HNN.out]; omega)⟩
          obtain ⟨pg, hpgA, -, -, hpc, -⟩ := Own.form p (by omega)
          have hpg : pg = w1.heap.size := by injection hpgA with h; injection h with h; exact h.symm
          subst hpg
          have hpx : wr.cell? ⟨w1.heap.size, N - 1, none⟩ = some (.string (bstr LW)) := (hpc (N - 1) (by omega)).trans (by rw [strs, List.getElem?_map, hLW]; rfl)
          have hlast : PS.getLast? = some LW := by rw [List.getLast?_eq_getElem?, HNN.out]; exact hLW
          obtain ⟨N1, hN1e⟩ : ∃ N1, N = N1 + 1 := ⟨N - 1, by omega⟩
          subst hN1e
          have cw : IntKind.i64.wrap ((N1 : Int)) = (N1 : Int) := IntWalk.i64_in _ (by omega)
          have i0 : (0 : Int) ≤ (N1 : Int) := by omega
          have i1 : (N1 : Int) < (N1 : Int) + 1 := by omega
          replace hpx : wr.cell? ⟨w1.heap.size, N1, none⟩ = some (.string (bstr LW)) := hpx
          obtain ⟨Y, hY⟩ : ∃ Y, rdYes PS (K : Int) = Y := ⟨_, rfl⟩
          have hYv : Y = (decide (K = 5) && decide (LW = yesW)) := by
            rw [← hY, rdYes, hlast]
            by_cases h5 : K = 5 <;> by_cases hy : LW = yesW <;> simp [h5, hy] <;> omega
          have HR : Hid (∀ k key ch to amt fee y, isEvt s.data.toList k key ch to amt fee y → (K : Int) = k ∧ vk = key ∧ vc = ch ∧ vt = to ∧ va = amt ∧ vf = fee ∧ Y = y) := Lib.hid (by
            intro k key ch to amt fee y h
            have h1 := isEvt_read h
            rw [HPE.out, HK.out] at h1
            obtain ⟨rfl, h2, h3, h4, h5, h6, h7⟩ := h1
            exact ⟨rfl, hvk.symm.trans h2, hvc.symm.trans h3, hvt.symm.trans h4, hva.symm.trans h5, hvf.symm.trans h6, hY.symm.trans h7⟩)
          clear hpgA hpc hLW hlast hvk hvc hvt hva hvf hY p
          by_cases h5 : K = 5
          · skip
            subst h5
            by_cases hyw : LW = yesW
            · skip
              have hcy : ((bstr LW).toList == (bstr yesW).toList) = true := eq_yes hyw
              rw [show (bstr yesW).toList = [121, 101, 115] by rw [ByteArray.toList_eq, bstr_list]; rfl] at hcy
              obtain rfl : Y = true := by rw [hYv]; simp [hyw]
              clear hYv hyw
              obtain ⟨TX, hTX⟩ : ∃ t, evT 5 vk vc vt va vf true = t := ⟨_, rfl⟩
              have HTX := Lib.hid hTX
              clear hTX
              go_wp2_with fail
              have he1 : Eff (w2.heap.size) (w2.heap.size + 1) wr (wr.setCell ⟨w2.heap.size, 6, none⟩ (.bool true)) := eff_set _ _ _ _
              replace res_f0 := (he1.frozen res_0 (by simp only; omega)).trans res_f0
              replace res_f1 := (he1.frozen res_1 (by simp only; omega)).trans res_f1
              replace res_f2 := (he1.frozen res_2 (by simp only; omega)).trans res_f2
              replace res_f3 := (he1.frozen res_3 (by simp only; omega)).trans res_f3
              replace res_f4 := (he1.frozen res_4 (by simp only; omega)).trans res_f4
              replace res_f5 := (he1.frozen res_5 (by simp only; omega)).trans res_f5
              replace res_f6 := (he1.frozen res_6 (by simp only; omega)).trans res_f6
              replace res_0 := he1.cell res_0 (by simp only; omega)
              replace res_1 := he1.cell res_1 (by simp only; omega)
              replace res_2 := he1.cell res_2 (by simp only; omega)
              replace res_3 := he1.cell res_3 (by simp only; omega)
              replace res_4 := he1.cell res_4 (by simp only; omega)
              replace res_5 := he1.cell res_5 (by simp only; omega)
              replace res_6 := he1.cell res_6 (by simp only; omega)
              replace e_0 := set_other (b' := w2.heap.size) (o' := 6) e_0 (.bool true) (.inr (by omega))
              replace e_1 := set_other (b' := w2.heap.size) (o' := 6) e_1 (.bool true) (.inr (by omega))
              replace e_2 := set_other (b' := w2.heap.size) (o' := 6) e_2 (.bool true) (.inr (by omega))
              replace e_3 := set_other (b' := w2.heap.size) (o' := 6) e_3 (.bool true) (.inr (by omega))
              replace e_4 := set_other (b' := w2.heap.size) (o' := 6) e_4 (.bool true) (.inr (by omega))
              replace e_5 := set_other (b' := w2.heap.size) (o' := 6) e_5 (.bool true) (.inr (by omega))
              replace e_6 := set_same e_6 (.bool true)
              clear hpx e_f6
              have hz1 : wr.heap.size ≤ (wr.setCell ⟨w2.heap.size, 6, none⟩ (.bool true)).heap.size := he1.size
              generalize (wr.setCell ⟨w2.heap.size, 6, none⟩ (.bool true)) = z1 at *
              have b1 : Below W.heap.size W z1 := hbQ.trans (he1.below hbQ.size (by omega))
              refine (impl_EventText 5 vk vc vt va vf true z1 (hT.below b1) (hM.below b1)).mono ?_
              rintro e z2 ⟨rfl, hb⟩
              rw [HTX.out]
              have he2 : Eff 0 0 z1 z2 := Eff.of hb
              have hz2 : z1.heap.size ≤ z2.heap.size := he2.size
              have b2 : Below W.heap.size W z2 := b1.trans (he2.below b1.size (by omega))
              replace res_f0 := (he2.frozen res_0 (by simp only; omega)).trans res_f0
              replace res_f1 := (he2.frozen res_1 (by simp only; omega)).trans res_f1
              replace res_f2 := (he2.frozen res_2 (by simp only; omega)).trans res_f2
              replace res_f3 := (he2.frozen res_3 (by simp only; omega)).trans res_f3
              replace res_f4 := (he2.frozen res_4 (by simp only; omega)).trans res_f4
              replace res_f5 := (he2.frozen res_5 (by simp only; omega)).trans res_f5
              replace res_f6 := (he2.frozen res_6 (by simp only; omega)).trans res_f6
              replace res_0 := he2.cell res_0 (by simp only; omega)
              replace res_1 := he2.cell res_1 (by simp only; omega)
              replace res_2 := he2.cell res_2 (by simp only; omega)
              replace res_3 := he2.cell res_3 (by simp only; omega)
              replace res_4 := he2.cell res_4 (by simp only; omega)
              replace res_5 := he2.cell res_5 (by simp only; omega)
              replace res_6 := he2.cell res_6 (by simp only; omega)
              replace e_0 := he2.cell e_0 (by simp only; omega)
              replace e_1 := he2.cell e_1 (by simp only; omega)
              replace e_2 := he2.cell e_2 (by simp only; omega)
              replace e_3 := he2.cell e_3 (by simp only; omega)
              replace e_4 := he2.cell e_4 (by simp only; omega)
              replace e_5 := he2.cell e_5 (by simp only; omega)
              replace e_6 := he2.cell e_6 (by simp only; omega)
              clear hb
              by_cases h0 : TX = []
              · skip
                subst h0
                have hem : (bstr []).toList.isEmpty = true := empty_yesE
                go_wp2_with fail
                have r0 : (((((((z2.setCell ⟨W.heap.size, 0, none⟩ (.int .i64 0)).setCell ⟨W.heap.size, 1, none⟩ (.int .i64 0)).setCell ⟨W.heap.size, 2, none⟩ (.int .i64 0)).setCell ⟨W.heap.size, 3, none⟩ (.int .i64 0)).setCell ⟨W.heap.size, 4, none⟩ (.int .i64 0)).setCell ⟨W.heap.size, 5, none⟩ (.int .i64 0)).setCell ⟨W.heap.size, 6, none⟩ (.bool false)).cell? ⟨W.heap.size, 0, none⟩ = some (.int .i64 0) := set_other (set_other (set_other (set_other (set_other (set_other (set_same (res_0) _) _ (.inr (by omega))) _ (.inr (by omega))) _ (.inr (by omega))) _ (.inr (by omega))) _ (.inr (by omega))) _ (.inr (by omega))
                have r1 : (((((((z2.setCell ⟨W.heap.size, 0, none⟩ (.int .i64 0)).setCell ⟨W.heap.size, 1, none⟩ (.int .i64 0)).setCell ⟨W.heap.size, 2, none⟩ (.int .i64 0)).setCell ⟨W.heap.size, 3, none⟩ (.int .i64 0)).setCell ⟨W.heap.size, 4, none⟩ (.int .i64 0)).setCell ⟨W.heap.size, 5, none⟩ (.int .i64 0)).setCell ⟨W.heap.size, 6, none⟩ (.bool false)).cell? ⟨W.heap.size, 1, none⟩ = some (.int .i64 0) := set_other (set_other (set_other (set_other (set_other (set_same (set_other (res_1) _ (.inr (by omega))) _) _ (.inr (by omega))) _ (.inr (by omega))) _ (.inr (by omega))) _ (.inr (by omega))) _ (.inr (by omega))
                have r2 : (((((((z2.setCell ⟨W.heap.size, 0, none⟩ (.int .i64 0)).setCell ⟨W.heap.size, 1, none⟩ (.int .i64 0)).setCell ⟨W.heap.size, 2, none⟩ (.int .i64 0)).setCell ⟨W.heap.size, 3, none⟩ (.int .i64 0)).setCell ⟨W.heap.size, 4, none⟩ (.int .i64 0)).setCell ⟨W.heap.size, 5, none⟩ (.int .i64 0)).setCell ⟨W.heap.size, 6, none⟩ (.bool false)).cell? ⟨W.heap.size, 2, none⟩ = some (.int .i64 0) := set_other (set_other (set_other (set_other (set_same (set_other (set_other (res_2) _ (.inr (by omega))) _ (.inr (by omega))) _) _ (.inr (by omega))) _ (.inr (by omega))) _ (.inr (by omega))) _ (.inr (by omega))
                have r3 : (((((((z2.setCell ⟨W.heap.size, 0, none⟩ (.int .i64 0)).setCell ⟨W.heap.size, 1, none⟩ (.int .i64 0)).setCell ⟨W.heap.size, 2, none⟩ (.int .i64 0)).setCell ⟨W.heap.size, 3, none⟩ (.int .i64 0)).setCell ⟨W.heap.size, 4, none⟩ (.int .i64 0)).setCell ⟨W.heap.size, 5, none⟩ (.int .i64 0)).setCell ⟨W.heap.size, 6, none⟩ (.bool false)).cell? ⟨W.heap.size, 3, none⟩ = some (.int .i64 0) := set_other (set_other (set_other (set_same (set_other (set_other (set_other (res_3) _ (.inr (by omega))) _ (.inr (by omega))) _ (.inr (by omega))) _) _ (.inr (by omega))) _ (.inr (by omega))) _ (.inr (by omega))
                have r4 : (((((((z2.setCell ⟨W.heap.size, 0, none⟩ (.int .i64 0)).setCell ⟨W.heap.size, 1, none⟩ (.int .i64 0)).setCell ⟨W.heap.size, 2, none⟩ (.int .i64 0)).setCell ⟨W.heap.size, 3, none⟩ (.int .i64 0)).setCell ⟨W.heap.size, 4, none⟩ (.int .i64 0)).setCell ⟨W.heap.size, 5, none⟩ (.int .i64 0)).setCell ⟨W.heap.size, 6, none⟩ (.bool false)).cell? ⟨W.heap.size, 4, none⟩ = some (.int .i64 0) := set_other (set_other (set_same (set_other (set_other (set_other (set_other (res_4) _ (.inr (by omega))) _ (.inr (by omega))) _ (.inr (by omega))) _ (.inr (by omega))) _) _ (.inr (by omega))) _ (.inr (by omega))
                have r5 : (((((((z2.setCell ⟨W.heap.size, 0, none⟩ (.int .i64 0)).setCell ⟨W.heap.size, 1, none⟩ (.int .i64 0)).setCell ⟨W.heap.size, 2, none⟩ (.int .i64 0)).setCell ⟨W.heap.size, 3, none⟩ (.int .i64 0)).setCell ⟨W.heap.size, 4, none⟩ (.int .i64 0)).setCell ⟨W.heap.size, 5, none⟩ (.int .i64 0)).setCell ⟨W.heap.size, 6, none⟩ (.bool false)).cell? ⟨W.heap.size, 5, none⟩ = some (.int .i64 0) := set_other (set_same (set_other (set_other (set_other (set_other (set_other (res_5) _ (.inr (by omega))) _ (.inr (by omega))) _ (.inr (by omega))) _ (.inr (by omega))) _ (.inr (by omega))) _) _ (.inr (by omega))
                have r6 : (((((((z2.setCell ⟨W.heap.size, 0, none⟩ (.int .i64 0)).setCell ⟨W.heap.size, 1, none⟩ (.int .i64 0)).setCell ⟨W.heap.size, 2, none⟩ (.int .i64 0)).setCell ⟨W.heap.size, 3, none⟩ (.int .i64 0)).setCell ⟨W.heap.size, 4, none⟩ (.int .i64 0)).setCell ⟨W.heap.size, 5, none⟩ (.int .i64 0)).setCell ⟨W.heap.size, 6, none⟩ (.bool false)).cell? ⟨W.heap.size, 6, none⟩ = some (.bool false) := set_same (set_other (set_other (set_other (set_other (set_other (set_other (res_6) _ (.inr (by omega))) _ (.inr (by omega))) _ (.inr (by omega))) _ (.inr (by omega))) _ (.inr (by omega))) _ (.inr (by omega))) _
                refine bodyPost_ret (v := .tuple #[.agg #[.int .i64 0, .int .i64 0, .int .i64 0, .int .i64 0, .int .i64 0, .int .i64 0, .bool false], .bool false]) (by simp [results, Tryd.results17, go_sem, r0, r1, r2, r3, r4, r5, r6]) rfl ?_
                exact rdEvt_no (fun k key ch to amt fee y h => by obtain ⟨h1, h2, h3, h4, h5, h6, h7⟩ := HR.out k key ch to amt fee y h; subst h1 h2 h3 h4 h5 h6 h7; have ht := HTX.out.symm.trans h.2; exact evT_ne h.1 (h.2.trans ht.symm)) (((((((b2.setCell (Nat.le_refl _) _).setCell (Nat.le_refl _) _).setCell (Nat.le_refl _) _).setCell (Nat.le_refl _) _).setCell (Nat.le_refl _) _).setCell (Nat.le_refl _) _).setCell (Nat.le_refl _) _)
              · skip
                have hem : (bstr TX).toList.isEmpty = false := empty_noE h0
                by_cases hq : TX = s.data.toList
                · skip
                  have hcm := cmp_same hq
                  have HQ := Lib.hid hq
                  have H0 := Lib.hid h0
                  clear hq h0
                  go_wp2_with fail
                  have r0 : (((((((z2.setCell ⟨W.heap.size, 0, none⟩ (.int .i64 5)).setCell ⟨W.heap.size, 1, none⟩ (.int .i64 vk)).setCell ⟨W.heap.size, 2, none⟩ (.int .i64 vc)).setCell ⟨W.heap.size, 3, none⟩ (.int .i64 vt)).setCell ⟨W.heap.size, 4, none⟩ (.int .i64 va)).setCell ⟨W.heap.size, 5, none⟩ (.int .i64 vf)).setCell ⟨W.heap.size, 6, none⟩ (.bool true)).cell? ⟨W.heap.size, 0, none⟩ = some (.int .i64 5) := set_other (set_other (set_other (set_other (set_other (set_other (set_same (res_0) _) _ (.inr (by omega))) _ (.inr (by omega))) _ (.inr (by omega))) _ (.inr (by omega))) _ (.inr (by omega))) _ (.inr (by omega))
                  have r1 : (((((((z2.setCell ⟨W.heap.size, 0, none⟩ (.int .i64 5)).setCell ⟨W.heap.size, 1, none⟩ (.int .i64 vk)).setCell ⟨W.heap.size, 2, none⟩ (.int .i64 vc)).setCell ⟨W.heap.size, 3, none⟩ (.int .i64 vt)).setCell ⟨W.heap.size, 4, none⟩ (.int .i64 va)).setCell ⟨W.heap.size, 5, none⟩ (.int .i64 vf)).setCell ⟨W.heap.size, 6, none⟩ (.bool true)).cell? ⟨W.heap.size, 1, none⟩ = some (.int .i64 vk) := set_other (set_other (set_other (set_other (set_other (set_same (set_other (res_1) _ (.inr (by omega))) _) _ (.inr (by omega))) _ (.inr (by omega))) _ (.inr (by omega))) _ (.inr (by omega))) _ (.inr (by omega))
                  have r2 : (((((((z2.setCell ⟨W.heap.size, 0, none⟩ (.int .i64 5)).setCell ⟨W.heap.size, 1, none⟩ (.int .i64 vk)).setCell ⟨W.heap.size, 2, none⟩ (.int .i64 vc)).setCell ⟨W.heap.size, 3, none⟩ (.int .i64 vt)).setCell ⟨W.heap.size, 4, none⟩ (.int .i64 va)).setCell ⟨W.heap.size, 5, none⟩ (.int .i64 vf)).setCell ⟨W.heap.size, 6, none⟩ (.bool true)).cell? ⟨W.heap.size, 2, none⟩ = some (.int .i64 vc) := set_other (set_other (set_other (set_other (set_same (set_other (set_other (res_2) _ (.inr (by omega))) _ (.inr (by omega))) _) _ (.inr (by omega))) _ (.inr (by omega))) _ (.inr (by omega))) _ (.inr (by omega))
                  have r3 : (((((((z2.setCell ⟨W.heap.size, 0, none⟩ (.int .i64 5)).setCell ⟨W.heap.size, 1, none⟩ (.int .i64 vk)).setCell ⟨W.heap.size, 2, none⟩ (.int .i64 vc)).setCell ⟨W.heap.size, 3, none⟩ (.int .i64 vt)).setCell ⟨W.heap.size, 4, none⟩ (.int .i64 va)).setCell ⟨W.heap.size, 5, none⟩ (.int .i64 vf)).setCell ⟨W.heap.size, 6, none⟩ (.bool true)).cell? ⟨W.heap.size, 3, none⟩ = some (.int .i64 vt) := set_other (set_other (set_other (set_same (set_other (set_other (set_other (res_3) _ (.inr (by omega))) _ (.inr (by omega))) _ (.inr (by omega))) _) _ (.inr (by omega))) _ (.inr (by omega))) _ (.inr (by omega))
                  have r4 : (((((((z2.setCell ⟨W.heap.size, 0, none⟩ (.int .i64 5)).setCell ⟨W.heap.size, 1, none⟩ (.int .i64 vk)).setCell ⟨W.heap.size, 2, none⟩ (.int .i64 vc)).setCell ⟨W.heap.size, 3, none⟩ (.int .i64 vt)).setCell ⟨W.heap.size, 4, none⟩ (.int .i64 va)).setCell ⟨W.heap.size, 5, none⟩ (.int .i64 vf)).setCell ⟨W.heap.size, 6, none⟩ (.bool true)).cell? ⟨W.heap.size, 4, none⟩ = some (.int .i64 va) := set_other (set_other (set_same (set_other (set_other (set_other (set_other (res_4) _ (.inr (by omega))) _ (.inr (by omega))) _ (.inr (by omega))) _ (.inr (by omega))) _) _ (.inr (by omega))) _ (.inr (by omega))
                  have r5 : (((((((z2.setCell ⟨W.heap.size, 0, none⟩ (.int .i64 5)).setCell ⟨W.heap.size, 1, none⟩ (.int .i64 vk)).setCell ⟨W.heap.size, 2, none⟩ (.int .i64 vc)).setCell ⟨W.heap.size, 3, none⟩ (.int .i64 vt)).setCell ⟨W.heap.size, 4, none⟩ (.int .i64 va)).setCell ⟨W.heap.size, 5, none⟩ (.int .i64 vf)).setCell ⟨W.heap.size, 6, none⟩ (.bool true)).cell? ⟨W.heap.size, 5, none⟩ = some (.int .i64 vf) := set_other (set_same (set_other (set_other (set_other (set_other (set_other (res_5) _ (.inr (by omega))) _ (.inr (by omega))) _ (.inr (by omega))) _ (.inr (by omega))) _ (.inr (by omega))) _) _ (.inr (by omega))
                  have r6 : (((((((z2.setCell ⟨W.heap.size, 0, none⟩ (.int .i64 5)).setCell ⟨W.heap.size, 1, none⟩ (.int .i64 vk)).setCell ⟨W.heap.size, 2, none⟩ (.int .i64 vc)).setCell ⟨W.heap.size, 3, none⟩ (.int .i64 vt)).setCell ⟨W.heap.size, 4, none⟩ (.int .i64 va)).setCell ⟨W.heap.size, 5, none⟩ (.int .i64 vf)).setCell ⟨W.heap.size, 6, none⟩ (.bool true)).cell? ⟨W.heap.size, 6, none⟩ = some (.bool true) := set_same (set_other (set_other (set_other (set_other (set_other (set_other (res_6) _ (.inr (by omega))) _ (.inr (by omega))) _ (.inr (by omega))) _ (.inr (by omega))) _ (.inr (by omega))) _ (.inr (by omega))) _
                  refine bodyPost_ret (v := .tuple #[.agg #[.int .i64 5, .int .i64 vk, .int .i64 vc, .int .i64 vt, .int .i64 va, .int .i64 vf, .bool true], .bool true]) (by simp [results, Tryd.results17, go_sem, r0, r1, r2, r3, r4, r5, r6]) rfl ?_
                  exact rdEvt_yes ⟨evT_ok H0.out HTX.out, HTX.out.trans HQ.out⟩ (((((((b2.setCell (Nat.le_refl _) _).setCell (Nat.le_refl _) _).setCell (Nat.le_refl _) _).setCell (Nat.le_refl _) _).setCell (Nat.le_refl _) _).setCell (Nat.le_refl _) _).setCell (Nat.le_refl _) _)
                · skip
                  have hcm := cmp_other hq
                  have HQ := Lib.hid hq
                  clear hq
                  go_wp2_with fail
                  have r0 : (((((((z2.setCell ⟨W.heap.size, 0, none⟩ (.int .i64 0)).setCell ⟨W.heap.size, 1, none⟩ (.int .i64 0)).setCell ⟨W.heap.size, 2, none⟩ (.int .i64 0)).setCell ⟨W.heap.size, 3, none⟩ (.int .i64 0)).setCell ⟨W.heap.size, 4, none⟩ (.int .i64 0)).setCell ⟨W.heap.size, 5, none⟩ (.int .i64 0)).setCell ⟨W.heap.size, 6, none⟩ (.bool false)).cell? ⟨W.heap.size, 0, none⟩ = some (.int .i64 0) := set_other (set_other (set_other (set_other (set_other (set_other (set_same (res_0) _) _ (.inr (by omega))) _ (.inr (by omega))) _ (.inr (by omega))) _ (.inr (by omega))) _ (.inr (by omega))) _ (.inr (by omega))
                  have r1 : (((((((z2.setCell ⟨W.heap.size, 0, none⟩ (.int .i64 0)).setCell ⟨W.heap.size, 1, none⟩ (.int .i64 0)).setCell ⟨W.heap.size, 2, none⟩ (.int .i64 0)).setCell ⟨W.heap.size, 3, none⟩ (.int .i64 0)).setCell ⟨W.heap.size, 4, none⟩ (.int .i64 0)).setCell ⟨W.heap.size, 5, none⟩ (.int .i64 0)).setCell ⟨W.heap.size, 6, none⟩ (.bool false)).cell? ⟨W.heap.size, 1, none⟩ = some (.int .i64 0) := set_other (set_other (set_other (set_other (set_other (set_same (set_other (res_1) _ (.inr (by omega))) _) _ (.inr (by omega))) _ (.inr (by omega))) _ (.inr (by omega))) _ (.inr (by omega))) _ (.inr (by omega))
                  have r2 : (((((((z2.setCell ⟨W.heap.size, 0, none⟩ (.int .i64 0)).setCell ⟨W.heap.size, 1, none⟩ (.int .i64 0)).setCell ⟨W.heap.size, 2, none⟩ (.int .i64 0)).setCell ⟨W.heap.size, 3, none⟩ (.int .i64 0)).setCell ⟨W.heap.size, 4, none⟩ (.int .i64 0)).setCell ⟨W.heap.size, 5, none⟩ (.int .i64 0)).setCell ⟨W.heap.size, 6, none⟩ (.bool false)).cell? ⟨W.heap.size, 2, none⟩ = some (.int .i64 0) := set_other (set_other (set_other (set_other (set_same (set_other (set_other (res_2) _ (.inr (by omega))) _ (.inr (by omega))) _) _ (.inr (by omega))) _ (.inr (by omega))) _ (.inr (by omega))) _ (.inr (by omega))
                  have r3 : (((((((z2.setCell ⟨W.heap.size, 0, none⟩ (.int .i64 0)).setCell ⟨W.heap.size, 1, none⟩ (.int .i64 0)).setCell ⟨W.heap.size, 2, none⟩ (.int .i64 0)).setCell ⟨W.heap.size, 3, none⟩ (.int .i64 0)).setCell ⟨W.heap.size, 4, none⟩ (.int .i64 0)).setCell ⟨W.heap.size, 5, none⟩ (.int .i64 0)).setCell ⟨W.heap.size, 6, none⟩ (.bool false)).cell? ⟨W.heap.size, 3, none⟩ = some (.int .i64 0) := set_other (set_other (set_other (set_same (set_other (set_other (set_other (res_3) _ (.inr (by omega))) _ (.inr (by omega))) _ (.inr (by omega))) _) _ (.inr (by omega))) _ (.inr (by omega))) _ (.inr (by omega))
                  have r4 : (((((((z2.setCell ⟨W.heap.size, 0, none⟩ (.int .i64 0)).setCell ⟨W.heap.size, 1, none⟩ (.int .i64 0)).setCell ⟨W.heap.size, 2, none⟩ (.int .i64 0)).setCell ⟨W.heap.size, 3, none⟩ (.int .i64 0)).setCell ⟨W.heap.size, 4, none⟩ (.int .i64 0)).setCell ⟨W.heap.size, 5, none⟩ (.int .i64 0)).setCell ⟨W.heap.size, 6, none⟩ (.bool false)).cell? ⟨W.heap.size, 4, none⟩ = some (.int .i64 0) := set_other (set_other (set_same (set_other (set_other (set_other (set_other (res_4) _ (.inr (by omega))) _ (.inr (by omega))) _ (.inr (by omega))) _ (.inr (by omega))) _) _ (.inr (by omega))) _ (.inr (by omega))
                  have r5 : (((((((z2.setCell ⟨W.heap.size, 0, none⟩ (.int .i64 0)).setCell ⟨W.heap.size, 1, none⟩ (.int .i64 0)).setCell ⟨W.heap.size, 2, none⟩ (.int .i64 0)).setCell ⟨W.heap.size, 3, none⟩ (.int .i64 0)).setCell ⟨W.heap.size, 4, none⟩ (.int .i64 0)).setCell ⟨W.heap.size, 5, none⟩ (.int .i64 0)).setCell ⟨W.heap.size, 6, none⟩ (.bool false)).cell? ⟨W.heap.size, 5, none⟩ = some (.int .i64 0) := set_other (set_same (set_other (set_other (set_other (set_other (set_other (res_5) _ (.inr (by omega))) _ (.inr (by omega))) _ (.inr (by omega))) _ (.inr (by omega))) _ (.inr (by omega))) _) _ (.inr (by omega))
                  have r6 : (((((((z2.setCell ⟨W.heap.size, 0, none⟩ (.int .i64 0)).setCell ⟨W.heap.size, 1, none⟩ (.int .i64 0)).setCell ⟨W.heap.size, 2, none⟩ (.int .i64 0)).setCell ⟨W.heap.size, 3, none⟩ (.int .i64 0)).setCell ⟨W.heap.size, 4, none⟩ (.int .i64 0)).setCell ⟨W.heap.size, 5, none⟩ (.int .i64 0)).setCell ⟨W.heap.size, 6, none⟩ (.bool false)).cell? ⟨W.heap.size, 6, none⟩ = some (.bool false) := set_same (set_other (set_other (set_other (set_other (set_other (set_other (res_6) _ (.inr (by omega))) _ (.inr (by omega))) _ (.inr (by omega))) _ (.inr (by omega))) _ (.inr (by omega))) _ (.inr (by omega))) _
                  refine bodyPost_ret (v := .tuple #[.agg #[.int .i64 0, .int .i64 0, .int .i64 0, .int .i64 0, .int .i64 0, .int .i64 0, .bool false], .bool false]) (by simp [results, Tryd.results17, go_sem, r0, r1, r2, r3, r4, r5, r6]) rfl ?_
                  exact rdEvt_no (fun k key ch to amt fee y h => by obtain ⟨h1, h2, h3, h4, h5, h6, h7⟩ := HR.out k key ch to amt fee y h; subst h1 h2 h3 h4 h5 h6 h7; have ht := HTX.out.symm.trans h.2; exact HQ.out ht) (((((((b2.setCell (Nat.le_refl _) _).setCell (Nat.le_refl _) _).setCell (Nat.le_refl _) _).setCell (Nat.le_refl _) _).setCell (Nat.le_refl _) _).setCell (Nat.le_refl _) _).setCell (Nat.le_refl _) _)
            · skip
              have hcy : ((bstr LW).toList == (bstr yesW).toList) = false := eq_no hyw
              rw [show (bstr yesW).toList = [121, 101, 115] by rw [ByteArray.toList_eq, bstr_list]; rfl] at hcy
              obtain rfl : Y = false := by rw [hYv]; simp [hyw]
              clear hYv hyw
              obtain ⟨TX, hTX⟩ : ∃ t, evT 5 vk vc vt va vf false = t := ⟨_, rfl⟩
              have HTX := Lib.hid hTX
              clear hTX
              go_wp2_with fail
              have he1 : Eff (w2.heap.size) (w2.heap.size + 1) wr (wr.setCell ⟨w2.heap.size, 6, none⟩ (.bool false)) := eff_set _ _ _ _
              replace res_f0 := (he1.frozen res_0 (by simp only; omega)).trans res_f0
              replace res_f1 := (he1.frozen res_1 (by simp only; omega)).trans res_f1
              replace res_f2 := (he1.frozen res_2 (by simp only; omega)).trans res_f2
              replace res_f3 := (he1.frozen res_3 (by simp only; omega)).trans res_f3
              replace res_f4 := (he1.frozen res_4 (by simp only; omega)).trans res_f4
              replace res_f5 := (he1.frozen res_5 (by simp only; omega)).trans res_f5
              replace res_f6 := (he1.frozen res_6 (by simp only; omega)).trans res_f6
              replace res_0 := he1.cell res_0 (by simp only; omega)
              replace res_1 := he1.cell res_1 (by simp only; omega)
              replace res_2 := he1.cell res_2 (by simp only; omega)
              replace res_3 := he1.cell res_3 (by simp only; omega)
              replace res_4 := he1.cell res_4 (by simp only; omega)
              replace res_5 := he1.cell res_5 (by simp only; omega)
              replace res_6 := he1.cell res_6 (by simp only; omega)
              replace e_0 := set_other (b' := w2.heap.size) (o' := 6) e_0 (.bool false) (.inr (by omega))
              replace e_1 := set_other (b' := w2.heap.size) (o' := 6) e_1 (.bool false) (.inr (by omega))
              replace e_2 := set_other (b' := w2.heap.size) (o' := 6) e_2 (.bool false) (.inr (by omega))
              replace e_3 := set_other (b' := w2.heap.size) (o' := 6) e_3 (.bool false) (.inr (by omega))
              replace e_4 := set_other (b' := w2.heap.size) (o' := 6) e_4 (.bool false) (.inr (by omega))
              replace e_5 := set_other (b' := w2.heap.size) (o' := 6) e_5 (.bool false) (.inr (by omega))
              replace e_6 := set_same e_6 (.bool false)
              clear hpx e_f6
              have hz1 : wr.heap.size ≤ (wr.setCell ⟨w2.heap.size, 6, none⟩ (.bool false)).heap.size := he1.size
              generalize (wr.setCell ⟨w2.heap.size, 6, none⟩ (.bool false)) = z1 at *
              have b1 : Below W.heap.size W z1 := hbQ.trans (he1.below hbQ.size (by omega))
              refine (impl_EventText 5 vk vc vt va vf false z1 (hT.below b1) (hM.below b1)).mono ?_
              rintro e z2 ⟨rfl, hb⟩
              rw [HTX.out]
              have he2 : Eff 0 0 z1 z2 := Eff.of hb
              have hz2 : z1.heap.size ≤ z2.heap.size := he2.size
              have b2 : Below W.heap.size W z2 := b1.trans (he2.below b1.size (by omega))
              replace res_f0 := (he2.frozen res_0 (by simp only; omega)).trans res_f0
              replace res_f1 := (he2.frozen res_1 (by simp only; omega)).trans res_f1
              replace res_f2 := (he2.frozen res_2 (by simp only; omega)).trans res_f2
              replace res_f3 := (he2.frozen res_3 (by simp only; omega)).trans res_f3
              replace res_f4 := (he2.frozen res_4 (by simp only; omega)).trans res_f4
              replace res_f5 := (he2.frozen res_5 (by simp only; omega)).trans res_f5
              replace res_f6 := (he2.frozen res_6 (by simp only; omega)).trans res_f6
              replace res_0 := he2.cell res_0 (by simp only; omega)
              replace res_1 := he2.cell res_1 (by simp only; omega)
              replace res_2 := he2.cell res_2 (by simp only; omega)
              replace res_3 := he2.cell res_3 (by simp only; omega)
              replace res_4 := he2.cell res_4 (by simp only; omega)
              replace res_5 := he2.cell res_5 (by simp only; omega)
              replace res_6 := he2.cell res_6 (by simp only; omega)
              replace e_0 := he2.cell e_0 (by simp only; omega)
              replace e_1 := he2.cell e_1 (by simp only; omega)
              replace e_2 := he2.cell e_2 (by simp only; omega)
              replace e_3 := he2.cell e_3 (by simp only; omega)
              replace e_4 := he2.cell e_4 (by simp only; omega)
              replace e_5 := he2.cell e_5 (by simp only; omega)
              replace e_6 := he2.cell e_6 (by simp only; omega)
              clear hb
              by_cases h0 : TX = []
              · skip
                subst h0
                have hem : (bstr []).toList.isEmpty = true := empty_yesE
                go_wp2_with fail
                have r0 : (((((((z2.setCell ⟨W.heap.size, 0, none⟩ (.int .i64 0)).setCell ⟨W.heap.size, 1, none⟩ (.int .i64 0)).setCell ⟨W.heap.size, 2, none⟩ (.int .i64 0)).setCell ⟨W.heap.size, 3, none⟩ (.int .i64 0)).setCell ⟨W.heap.size, 4, none⟩ (.int .i64 0)).setCell ⟨W.heap.size, 5, none⟩ (.int .i64 0)).setCell ⟨W.heap.size, 6, none⟩ (.bool false)).cell? ⟨W.heap.size, 0, none⟩ = some (.int .i64 0) := set_other (set_other (set_other (set_other (set_other (set_other (set_same (res_0) _) _ (.inr (by omega))) _ (.inr (by omega))) _ (.inr (by omega))) _ (.inr (by omega))) _ (.inr (by omega))) _ (.inr (by omega))
                have r1 : (((((((z2.setCell ⟨W.heap.size, 0, none⟩ (.int .i64 0)).setCell ⟨W.heap.size, 1, none⟩ (.int .i64 0)).setCell ⟨W.heap.size, 2, none⟩ (.int .i64 0)).setCell ⟨W.heap.size, 3, none⟩ (.int .i64 0)).setCell ⟨W.heap.size, 4, none⟩ (.int .i64 0)).setCell ⟨W.heap.size, 5, none⟩ (.int .i64 0)).setCell ⟨W.heap.size, 6, none⟩ (.bool false)).cell? ⟨W.heap.size, 1, none⟩ = some (.int .i64 0) := set_other (set_other (set_other (set_other (set_other (set_same (set_other (res_1) _ (.inr (by omega))) _) _ (.inr (by omega))) _ (.inr (by omega))) _ (.inr (by omega))) _ (.inr (by omega))) _ (.inr (by omega))
                have r2 : (((((((z2.setCell ⟨W.heap.size, 0, none⟩ (.int .i64 0)).setCell ⟨W.heap.size, 1, none⟩ (.int .i64 0)).setCell ⟨W.heap.size, 2, none⟩ (.int .i64 0)).setCell ⟨W.heap.size, 3, none⟩ (.int .i64 0)).setCell ⟨W.heap.size, 4, none⟩ (.int .i64 0)).setCell ⟨W.heap.size, 5, none⟩ (.int .i64 0)).setCell ⟨W.heap.size, 6, none⟩ (.bool false)).cell? ⟨W.heap.size, 2, none⟩ = some (.int .i64 0) := set_other (set_other (set_other (set_other (set_same (set_other (set_other (res_2) _ (.inr (by omega))) _ (.inr (by omega))) _) _ (.inr (by omega))) _ (.inr (by omega))) _ (.inr (by omega))) _ (.inr (by omega))
                have r3 : (((((((z2.setCell ⟨W.heap.size, 0, none⟩ (.int .i64 0)).setCell ⟨W.heap.size, 1, none⟩ (.int .i64 0)).setCell ⟨W.heap.size, 2, none⟩ (.int .i64 0)).setCell ⟨W.heap.size, 3, none⟩ (.int .i64 0)).setCell ⟨W.heap.size, 4, none⟩ (.int .i64 0)).setCell ⟨W.heap.size, 5, none⟩ (.int .i64 0)).setCell ⟨W.heap.size, 6, none⟩ (.bool false)).cell? ⟨W.heap.size, 3, none⟩ = some (.int .i64 0) := set_other (set_other (set_other (set_same (set_other (set_other (set_other (res_3) _ (.inr (by omega))) _ (.inr (by omega))) _ (.inr (by omega))) _) _ (.inr (by omega))) _ (.inr (by omega))) _ (.inr (by omega))
                have r4 : (((((((z2.setCell ⟨W.heap.size, 0, none⟩ (.int .i64 0)).setCell ⟨W.heap.size, 1, none⟩ (.int .i64 0)).setCell ⟨W.heap.size, 2, none⟩ (.int .i64 0)).setCell ⟨W.heap.size, 3, none⟩ (.int .i64 0)).setCell ⟨W.heap.size, 4, none⟩ (.int .i64 0)).setCell ⟨W.heap.size, 5, none⟩ (.int .i64 0)).setCell ⟨W.heap.size, 6, none⟩ (.bool false)).cell? ⟨W.heap.size, 4, none⟩ = some (.int .i64 0) := set_other (set_other (set_same (set_other (set_other (set_other (set_other (res_4) _ (.inr (by omega))) _ (.inr (by omega))) _ (.inr (by omega))) _ (.inr (by omega))) _) _ (.inr (by omega))) _ (.inr (by omega))
                have r5 : (((((((z2.setCell ⟨W.heap.size, 0, none⟩ (.int .i64 0)).setCell ⟨W.heap.size, 1, none⟩ (.int .i64 0)).setCell ⟨W.heap.size, 2, none⟩ (.int .i64 0)).setCell ⟨W.heap.size, 3, none⟩ (.int .i64 0)).setCell ⟨W.heap.size, 4, none⟩ (.int .i64 0)).setCell ⟨W.heap.size, 5, none⟩ (.int .i64 0)).setCell ⟨W.heap.size, 6, none⟩ (.bool false)).cell? ⟨W.heap.size, 5, none⟩ = some (.int .i64 0) := set_other (set_same (set_other (set_other (set_other (set_other (set_other (res_5) _ (.inr (by omega))) _ (.inr (by omega))) _ (.inr (by omega))) _ (.inr (by omega))) _ (.inr (by omega))) _) _ (.inr (by omega))
                have r6 : (((((((z2.setCell ⟨W.heap.size, 0, none⟩ (.int .i64 0)).setCell ⟨W.heap.size, 1, none⟩ (.int .i64 0)).setCell ⟨W.heap.size, 2, none⟩ (.int .i64 0)).setCell ⟨W.heap.size, 3, none⟩ (.int .i64 0)).setCell ⟨W.heap.size, 4, none⟩ (.int .i64 0)).setCell ⟨W.heap.size, 5, none⟩ (.int .i64 0)).setCell ⟨W.heap.size, 6, none⟩ (.bool false)).cell? ⟨W.heap.size, 6, none⟩ = some (.bool false) := set_same (set_other (set_other (set_other (set_other (set_other (set_other (res_6) _ (.inr (by omega))) _ (.inr (by omega))) _ (.inr (by omega))) _ (.inr (by omega))) _ (.inr (by omega))) _ (.inr (by omega))) _
                refine bodyPost_ret (v := .tuple #[.agg #[.int .i64 0, .int .i64 0, .int .i64 0, .int .i64 0, .int .i64 0, .int .i64 0, .bool false], .bool false]) (by simp [results, Tryd.results17, go_sem, r0, r1, r2, r3, r4, r5, r6]) rfl ?_
                exact rdEvt_no (fun k key ch to amt fee y h => by obtain ⟨h1, h2, h3, h4, h5, h6, h7⟩ := HR.out k key ch to amt fee y h; subst h1 h2 h3 h4 h5 h6 h7; have ht := HTX.out.symm.trans h.2; exact evT_ne h.1 (h.2.trans ht.symm)) (((((((b2.setCell (Nat.le_refl _) _).setCell (Nat.le_refl _) _).setCell (Nat.le_refl _) _).setCell (Nat.le_refl _) _).setCell (Nat.le_refl _) _).setCell (Nat.le_refl _) _).setCell (Nat.le_refl _) _)
              · skip
                have hem : (bstr TX).toList.isEmpty = false := empty_noE h0
                by_cases hq : TX = s.data.toList
                · skip
                  have hcm := cmp_same hq
                  have HQ := Lib.hid hq
                  have H0 := Lib.hid h0
                  clear hq h0
                  go_wp2_with fail
                  have r0 : (((((((z2.setCell ⟨W.heap.size, 0, none⟩ (.int .i64 5)).setCell ⟨W.heap.size, 1, none⟩ (.int .i64 vk)).setCell ⟨W.heap.size, 2, none⟩ (.int .i64 vc)).setCell ⟨W.heap.size, 3, none⟩ (.int .i64 vt)).setCell ⟨W.heap.size, 4, none⟩ (.int .i64 va)).setCell ⟨W.heap.size, 5, none⟩ (.int .i64 vf)).setCell ⟨W.heap.size, 6, none⟩ (.bool false)).cell? ⟨W.heap.size, 0, none⟩ = some (.int .i64 5) := set_other (set_other (set_other (set_other (set_other (set_other (set_same (res_0) _) _ (.inr (by omega))) _ (.inr (by omega))) _ (.inr (by omega))) _ (.inr (by omega))) _ (.inr (by omega))) _ (.inr (by omega))
                  have r1 : (((((((z2.setCell ⟨W.heap.size, 0, none⟩ (.int .i64 5)).setCell ⟨W.heap.size, 1, none⟩ (.int .i64 vk)).setCell ⟨W.heap.size, 2, none⟩ (.int .i64 vc)).setCell ⟨W.heap.size, 3, none⟩ (.int .i64 vt)).setCell ⟨W.heap.size, 4, none⟩ (.int .i64 va)).setCell ⟨W.heap.size, 5, none⟩ (.int .i64 vf)).setCell ⟨W.heap.size, 6, none⟩ (.bool false)).cell? ⟨W.heap.size, 1, none⟩ = some (.int .i64 vk) := set_other (set_other (set_other (set_other (set_other (set_same (set_other (res_1) _ (.inr (by omega))) _) _ (.inr (by omega))) _ (.inr (by omega))) _ (.inr (by omega))) _ (.inr (by omega))) _ (.inr (by omega))
                  have r2 : (((((((z2.setCell ⟨W.heap.size, 0, none⟩ (.int .i64 5)).setCell ⟨W.heap.size, 1, none⟩ (.int .i64 vk)).setCell ⟨W.heap.size, 2, none⟩ (.int .i64 vc)).setCell ⟨W.heap.size, 3, none⟩ (.int .i64 vt)).setCell ⟨W.heap.size, 4, none⟩ (.int .i64 va)).setCell ⟨W.heap.size, 5, none⟩ (.int .i64 vf)).setCell ⟨W.heap.size, 6, none⟩ (.bool false)).cell? ⟨W.heap.size, 2, none⟩ = some (.int .i64 vc) := set_other (set_other (set_other (set_other (set_same (set_other (set_other (res_2) _ (.inr (by omega))) _ (.inr (by omega))) _) _ (.inr (by omega))) _ (.inr (by omega))) _ (.inr (by omega))) _ (.inr (by omega))
                  have r3 : (((((((z2.setCell ⟨W.heap.size, 0, none⟩ (.int .i64 5)).setCell ⟨W.heap.size, 1, none⟩ (.int .i64 vk)).setCell ⟨W.heap.size, 2, none⟩ (.int .i64 vc)).setCell ⟨W.heap.size, 3, none⟩ (.int .i64 vt)).setCell ⟨W.heap.size, 4, none⟩ (.int .i64 va)).setCell ⟨W.heap.size, 5, none⟩ (.int .i64 vf)).setCell ⟨W.heap.size, 6, none⟩ (.bool false)).cell? ⟨W.heap.size, 3, none⟩ = some (.int .i64 vt) := set_other (set_other (set_other (set_same (set_other (set_other (set_other (res_3) _ (.inr (by omega))) _ (.inr (by omega))) _ (.inr (by omega))) _) _ (.inr (by omega))) _ (.inr (by omega))) _ (.inr (by omega))
                  have r4 : (((((((z2.setCell ⟨W.heap.size, 0, none⟩ (.int .i64 5)).setCell ⟨W.heap.size, 1, none⟩ (.int .i64 vk)).setCell ⟨W.heap.size, 2, none⟩ (.int .i64 vc)).setCell ⟨W.heap.size, 3, none⟩ (.int .i64 vt)).setCell ⟨W.heap.size, 4, none⟩ (.int .i64 va)).setCell ⟨W.heap.size, 5, none⟩ (.int .i64 vf)).setCell ⟨W.heap.size, 6, none⟩ (.bool false)).cell? ⟨W.heap.size, 4, none⟩ = some (.int .i64 va) := set_other (set_other (set_same (set_other (set_other (set_other (set_other (res_4) _ (.inr (by omega))) _ (.inr (by omega))) _ (.inr (by omega))) _ (.inr (by omega))) _) _ (.inr (by omega))) _ (.inr (by omega))
                  have r5 : (((((((z2.setCell ⟨W.heap.size, 0, none⟩ (.int .i64 5)).setCell ⟨W.heap.size, 1, none⟩ (.int .i64 vk)).setCell ⟨W.heap.size, 2, none⟩ (.int .i64 vc)).setCell ⟨W.heap.size, 3, none⟩ (.int .i64 vt)).setCell ⟨W.heap.size, 4, none⟩ (.int .i64 va)).setCell ⟨W.heap.size, 5, none⟩ (.int .i64 vf)).setCell ⟨W.heap.size, 6, none⟩ (.bool false)).cell? ⟨W.heap.size, 5, none⟩ = some (.int .i64 vf) := set_other (set_same (set_other (set_other (set_other (set_other (set_other (res_5) _ (.inr (by omega))) _ (.inr (by omega))) _ (.inr (by omega))) _ (.inr (by omega))) _ (.inr (by omega))) _) _ (.inr (by omega))
                  have r6 : (((((((z2.setCell ⟨W.heap.size, 0, none⟩ (.int .i64 5)).setCell ⟨W.heap.size, 1, none⟩ (.int .i64 vk)).setCell ⟨W.heap.size, 2, none⟩ (.int .i64 vc)).setCell ⟨W.heap.size, 3, none⟩ (.int .i64 vt)).setCell ⟨W.heap.size, 4, none⟩ (.int .i64 va)).setCell ⟨W.heap.size, 5, none⟩ (.int .i64 vf)).setCell ⟨W.heap.size, 6, none⟩ (.bool false)).cell? ⟨W.heap.size, 6, none⟩ = some (.bool false) := set_same (set_other (set_other (set_other (set_other (set_other (set_other (res_6) _ (.inr (by omega))) _ (.inr (by omega))) _ (.inr (by omega))) _ (.inr (by omega))) _ (.inr (by omega))) _ (.inr (by omega))) _
                  refine bodyPost_ret (v := .tuple #[.agg #[.int .i64 5, .int .i64 vk, .int .i64 vc, .int .i64 vt, .int .i64 va, .int .i64 vf, .bool false], .bool true]) (by simp [results, Tryd.results17, go_sem, r0, r1, r2, r3, r4, r5, r6]) rfl ?_
                  exact rdEvt_yes ⟨evT_ok H0.out HTX.out, HTX.out.trans HQ.out⟩ (((((((b2.setCell (Nat.le_refl _) _).setCell (Nat.le_refl _) _).setCell (Nat.le_refl _) _).setCell (Nat.le_refl _) _).setCell (Nat.le_refl _) _).setCell (Nat.le_refl _) _).setCell (Nat.le_refl _) _)
                · skip
                  have hcm := cmp_other hq
                  have HQ := Lib.hid hq
                  clear hq
                  go_wp2_with fail
                  have r0 : (((((((z2.setCell ⟨W.heap.size, 0, none⟩ (.int .i64 0)).setCell ⟨W.heap.size, 1, none⟩ (.int .i64 0)).setCell ⟨W.heap.size, 2, none⟩ (.int .i64 0)).setCell ⟨W.heap.size, 3, none⟩ (.int .i64 0)).setCell ⟨W.heap.size, 4, none⟩ (.int .i64 0)).setCell ⟨W.heap.size, 5, none⟩ (.int .i64 0)).setCell ⟨W.heap.size, 6, none⟩ (.bool false)).cell? ⟨W.heap.size, 0, none⟩ = some (.int .i64 0) := set_other (set_other (set_other (set_other (set_other (set_other (set_same (res_0) _) _ (.inr (by omega))) _ (.inr (by omega))) _ (.inr (by omega))) _ (.inr (by omega))) _ (.inr (by omega))) _ (.inr (by omega))
                  have r1 : (((((((z2.setCell ⟨W.heap.size, 0, none⟩ (.int .i64 0)).setCell ⟨W.heap.size, 1, none⟩ (.int .i64 0)).setCell ⟨W.heap.size, 2, none⟩ (.int .i64 0)).setCell ⟨W.heap.size, 3, none⟩ (.int .i64 0)).setCell ⟨W.heap.size, 4, none⟩ (.int .i64 0)).setCell ⟨W.heap.size, 5, none⟩ (.int .i64 0)).setCell ⟨W.heap.size, 6, none⟩ (.bool false)).cell? ⟨W.heap.size, 1, none⟩ = some (.int .i64 0) := set_other (set_other (set_other (set_other (set_other (set_same (set_other (res_1) _ (.inr (by omega))) _) _ (.inr (by omega))) _ (.inr (by omega))) _ (.inr (by omega))) _ (.inr (by omega))) _ (.inr (by omega))
                  have r2 : (((((((z2.setCell ⟨W.heap.size, 0, none⟩ (.int .i64 0)).setCell ⟨W.heap.size, 1, none⟩ (.int .i64 0)).setCell ⟨W.heap.size, 2, none⟩ (.int .i64 0)).setCell ⟨W.heap.size, 3, none⟩ (.int .i64 0)).setCell ⟨W.heap.size, 4, none⟩ (.int .i64 0)).setCell ⟨W.heap.size, 5, none⟩ (.int .i64 0)).setCell ⟨W.heap.size, 6, none⟩ (.bool false)).cell? ⟨W.heap.size, 2, none⟩ = some (.int .i64 0) := set_other (set_other (set_other (set_other (set_same (set_other (set_other (res_2) _ (.inr (by omega))) _ (.inr (by omega))) _) _ (.inr (by omega))) _ (.inr (by omega))) _ (.inr (by omega))) _ (.inr (by omega))
                  have r3 : (((((((z2.setCell ⟨W.heap.size, 0, none⟩ (.int .i64 0)).setCell ⟨W.heap.size, 1, none⟩ (.int .i64 0)).setCell ⟨W.heap.size, 2, none⟩ (.int .i64 0)).setCell ⟨W.heap.size, 3, none⟩ (.int .i64 0)).setCell ⟨W.heap.size, 4, none⟩ (.int .i64 0)).setCell ⟨W.heap.size, 5, none⟩ (.int .i64 0)).setCell ⟨W.heap.size, 6, none⟩ (.bool false)).cell? ⟨W.heap.size, 3, none⟩ = some (.int .i64 0) := set_other (set_other (set_other (set_same (set_other (set_other (set_other (res_3) _ (.inr (by omega))) _ (.inr (by omega))) _ (.inr (by omega))) _) _ (.inr (by omega))) _ (.inr (by omega))) _ (.inr (by omega))
                  have r4 : (((((((z2.setCell ⟨W.heap.size, 0, none⟩ (.int .i64 0)).setCell ⟨W.heap.size, 1, none⟩ (.int .i64 0)).setCell ⟨W.heap.size, 2, none⟩ (.int .i64 0)).setCell ⟨W.heap.size, 3, none⟩ (.int .i64 0)).setCell ⟨W.heap.size, 4, none⟩ (.int .i64 0)).setCell ⟨W.heap.size, 5, none⟩ (.int .i64 0)).setCell ⟨W.heap.size, 6, none⟩ (.bool false)).cell? ⟨W.heap.size, 4, none⟩ = some (.int .i64 0) := set_other (set_other (set_same (set_other (set_other (set_other (set_other (res_4) _ (.inr (by omega))) _ (.inr (by omega))) _ (.inr (by omega))) _ (.inr (by omega))) _) _ (.inr (by omega))) _ (.inr (by omega))
                  have r5 : (((((((z2.setCell ⟨W.heap.size, 0, none⟩ (.int .i64 0)).setCell ⟨W.heap.size, 1, none⟩ (.int .i64 0)).setCell ⟨W.heap.size, 2, none⟩ (.int .i64 0)).setCell ⟨W.heap.size, 3, none⟩ (.int .i64 0)).setCell ⟨W.heap.size, 4, none⟩ (.int .i64 0)).setCell ⟨W.heap.size, 5, none⟩ (.int .i64 0)).setCell ⟨W.heap.size, 6, none⟩ (.bool false)).cell? ⟨W.heap.size, 5, none⟩ = some (.int .i64 0) := set_other (set_same (set_other (set_other (set_other (set_other (set_other (res_5) _ (.inr (by omega))) _ (.inr (by omega))) _ (.inr (by omega))) _ (.inr (by omega))) _ (.inr (by omega))) _) _ (.inr (by omega))
                  have r6 : (((((((z2.setCell ⟨W.heap.size, 0, none⟩ (.int .i64 0)).setCell ⟨W.heap.size, 1, none⟩ (.int .i64 0)).setCell ⟨W.heap.size, 2, none⟩ (.int .i64 0)).setCell ⟨W.heap.size, 3, none⟩ (.int .i64 0)).setCell ⟨W.heap.size, 4, none⟩ (.int .i64 0)).setCell ⟨W.heap.size, 5, none⟩ (.int .i64 0)).setCell ⟨W.heap.size, 6, none⟩ (.bool false)).cell? ⟨W.heap.size, 6, none⟩ = some (.bool false) := set_same (set_other (set_other (set_other (set_other (set_other (set_other (res_6) _ (.inr (by omega))) _ (.inr (by omega))) _ (.inr (by omega))) _ (.inr (by omega))) _ (.inr (by omega))) _ (.inr (by omega))) _
                  refine bodyPost_ret (v := .tuple #[.agg #[.int .i64 0, .int .i64 0, .int .i64 0, .int .i64 0, .int .i64 0, .int .i64 0, .bool false], .bool false]) (by simp [results, Tryd.results17, go_sem, r0, r1, r2, r3, r4, r5, r6]) rfl ?_
                  exact rdEvt_no (fun k key ch to amt fee y h => by obtain ⟨h1, h2, h3, h4, h5, h6, h7⟩ := HR.out k key ch to amt fee y h; subst h1 h2 h3 h4 h5 h6 h7; have ht := HTX.out.symm.trans h.2; exact HQ.out ht) (((((((b2.setCell (Nat.le_refl _) _).setCell (Nat.le_refl _) _).setCell (Nat.le_refl _) _).setCell (Nat.le_refl _) _).setCell (Nat.le_refl _) _).setCell (Nat.le_refl _) _).setCell (Nat.le_refl _) _)
          · skip
            have h5n : ((K : Int) == 5) = false := by simp; omega
            obtain rfl : Y = false := by rw [hYv]; simp [h5]
            clear hYv
            obtain ⟨TX, hTX⟩ : ∃ t, evT (K : Int) vk vc vt va vf false = t := ⟨_, rfl⟩
            have HTX := Lib.hid hTX
            clear hTX
            go_wp2_with fail
            have he1 : Eff (w2.heap.size) (w2.heap.size + 1) wr (wr.setCell ⟨w2.heap.size, 6, none⟩ (.bool false)) := eff_set _ _ _ _
            replace res_f0 := (he1.frozen res_0 (by simp only; omega)).trans res_f0
            replace res_f1 := (he1.frozen res_1 (by simp only; omega)).trans res_f1
            replace res_f2 := (he1.frozen res_2 (by simp only; omega)).trans res_f2
            replace res_f3 := (he1.frozen res_3 (by simp only; omega)).trans res_f3
            replace res_f4 := (he1.frozen res_4 (by simp only; omega)).trans res_f4
            replace res_f5 := (he1.frozen res_5 (by simp only; omega)).trans res_f5
            replace res_f6 := (he1.frozen res_6 (by simp only; omega)).trans res_f6
            replace res_0 := he1.cell res_0 (by simp only; omega)
            replace res_1 := he1.cell res_1 (by simp only; omega)
            replace res_2 := he1.cell res_2 (by simp only; omega)
            replace res_3 := he1.cell res_3 (by simp only; omega)
            replace res_4 := he1.cell res_4 (by simp only; omega)
            replace res_5 := he1.cell res_5 (by simp only; omega)
            replace res_6 := he1.cell res_6 (by simp only; omega)
            replace e_0 := set_other (b' := w2.heap.size) (o' := 6) e_0 (.bool false) (.inr (by omega))
            replace e_1 := set_other (b' := w2.heap.size) (o' := 6) e_1 (.bool false) (.inr (by omega))
            replace e_2 := set_other (b' := w2.heap.size) (o' := 6) e_2 (.bool false) (.inr (by omega))
            replace e_3 := set_other (b' := w2.heap.size) (o' := 6) e_3 (.bool false) (.inr (by omega))
            replace e_4 := set_other (b' := w2.heap.size) (o' := 6) e_4 (.bool false) (.inr (by omega))
            replace e_5 := set_other (b' := w2.heap.size) (o' := 6) e_5 (.bool false) (.inr (by omega))
            replace e_6 := set_same e_6 (.bool false)
            clear hpx e_f6
            have hz1 : wr.heap.size ≤ (wr.setCell ⟨w2.heap.size, 6, none⟩ (.bool false)).heap.size := he1.size
            generalize (wr.setCell ⟨w2.heap.size, 6, none⟩ (.bool false)) = z1 at *
            have b1 : Below W.heap.size W z1 := hbQ.trans (he1.below hbQ.size (by omega))
            refine (impl_EventText (K : Int) vk vc vt va vf false z1 (hT.below b1) (hM.below b1)).mono ?_
            rintro e z2 ⟨rfl, hb⟩
            rw [HTX.out]
            have he2 : Eff 0 0 z1 z2 := Eff.of hb
            have hz2 : z1.heap.size ≤ z2.heap.size := he2.size
            have b2 : Below W.heap.size W z2 := b1.trans (he2.below b1.size (by omega))
            replace res_f0 := (he2.frozen res_0 (by simp only; omega)).trans res_f0
            replace res_f1 := (he2.frozen res_1 (by simp only; omega)).trans res_f1
            replace res_f2 := (he2.frozen res_2 (by simp only; omega)).trans res_f2
            replace res_f3 := (he2.frozen res_3 (by simp only; omega)).trans res_f3
            replace res_f4 := (he2.frozen res_4 (by simp only; omega)).trans res_f4
            replace res_f5 := (he2.frozen res_5 (by simp only; omega)).trans res_f5
            replace res_f6 := (he2.frozen res_6 (by simp only; omega)).trans res_f6
            replace res_0 := he2.cell res_0 (by simp only; omega)
            replace res_1 := he2.cell res_1 (by simp only; omega)
            replace res_2 := he2.cell res_2 (by simp only; omega)
            replace res_3 := he2.cell res_3 (by simp only; omega)
            replace res_4 := he2.cell res_4 (by simp only; omega)
            replace res_5 := he2.cell res_5 (by simp only; omega)
            replace res_6 := he2.cell res_6 (by simp only; omega)
            replace e_0 := he2.cell e_0 (by simp only; omega)
            replace e_1 := he2.cell e_1 (by simp only; omega)
            replace e_2 := he2.cell e_2 (by simp only; omega)
            replace e_3 := he2.cell e_3 (by simp only; omega)
            replace e_4 := he2.cell e_4 (by simp only; omega)
            replace e_5 := he2.cell e_5 (by simp only; omega)
            replace e_6 := he2.cell e_6 (by simp only; omega)
            clear hb
            by_cases h0 : TX = []
            · skip
              subst h0
              have hem : (bstr []).toList.isEmpty = true := empty_yesE
              go_wp2_with fail
              have r0 : (((((((z2.setCell ⟨W.heap.size, 0, none⟩ (.int .i64 0)).setCell ⟨W.heap.size, 1, none⟩ (.int .i64 0)).setCell ⟨W.heap.size, 2, none⟩ (.int .i64 0)).setCell ⟨W.heap.size, 3, none⟩ (.int .i64 0)).setCell ⟨W.heap.size, 4, none⟩ (.int .i64 0)).setCell ⟨W.heap.size, 5, none⟩ (.int .i64 0)).setCell ⟨W.heap.size, 6, none⟩ (.bool false)).cell? ⟨W.heap.size, 0, none⟩ = some (.int .i64 0) := set_other (set_other (set_other (set_other (set_other (set_other (set_same (res_0) _) _ (.inr (by omega))) _ (.inr (by omega))) _ (.inr (by omega))) _ (.inr (by omega))) _ (.inr (by omega))) _ (.inr (by omega))
              have r1 : (((((((z2.setCell ⟨W.heap.size, 0, none⟩ (.int .i64 0)).setCell ⟨W.heap.size, 1, none⟩ (.int .i64 0)).setCell ⟨W.heap.size, 2, none⟩ (.int .i64 0)).setCell ⟨W.heap.size, 3, none⟩ (.int .i64 0)).setCell ⟨W.heap.size, 4, none⟩ (.int .i64 0)).setCell ⟨W.heap.size, 5, none⟩ (.int .i64 0)).setCell ⟨W.heap.size, 6, none⟩ (.bool false)).cell? ⟨W.heap.size, 1, none⟩ = some (.int .i64 0) := set_other (set_other (set_other (set_other (set_other (set_same (set_other (res_1) _ (.inr (by omega))) _) _ (.inr (by omega))) _ (.inr (by omega))) _ (.inr (by omega))) _ (.inr (by omega))) _ (.inr (by omega))
              have r2 : (((((((z2.setCell ⟨W.heap.size, 0, none⟩ (.int .i64 0)).setCell ⟨W.heap.size, 1, none⟩ (.int .i64 0)).setCell ⟨W.heap.size, 2, none⟩ (.int .i64 0)).setCell ⟨W.heap.size, 3, none⟩ (.int .i64 0)).setCell ⟨W.heap.size, 4, none⟩ (.int .i64 0)).setCell ⟨W.heap.size, 5, none⟩ (.int .i64 0)).setCell ⟨W.heap.size, 6, none⟩ (.bool false)).cell? ⟨W.heap.size, 2, none⟩ = some (.int .i64 0) := set_other (set_other (set_other (set_other (set_same (set_other (set_other (res_2) _ (.inr (by omega))) _ (.inr (by omega))) _) _ (.inr (by omega))) _ (.inr (by omega))) _ (.inr (by omega))) _ (.inr (by omega))
              have r3 : (((((((z2.setCell ⟨W.heap.size, 0, none⟩ (.int .i64 0)).setCell ⟨W.heap.size, 1, none⟩ (.int .i64 0)).setCell ⟨W.heap.size, 2, none⟩ (.int .i64 0)).setCell ⟨W.heap.size, 3, none⟩ (.int .i64 0)).setCell ⟨W.heap.size, 4, none⟩ (.int .i64 0)).setCell ⟨W.heap.size, 5, none⟩ (.int .i64 0)).setCell ⟨W.heap.size, 6, none⟩ (.bool false)).cell? ⟨W.heap.size, 3, none⟩ = some (.int .i64 0) := set_other (set_other (set_other (set_same (set_other (set_other (set_other (res_3) _ (.inr (by omega))) _ (.inr (by omega))) _ (.inr (by omega))) _) _ (.inr (by omega))) _ (.inr (by omega))) _ (.inr (by omega))
              have r4 : (((((((z2.setCell ⟨W.heap.size, 0, none⟩ (.int .i64 0)).setCell ⟨W.heap.size, 1, none⟩ (.int .i64 0)).setCell ⟨W.heap.size, 2, none⟩ (.int .i64 0)).setCell ⟨W.heap.size, 3, none⟩ (.int .i64 0)).setCell ⟨W.heap.size, 4, none⟩ (.int .i64 0)).setCell ⟨W.heap.size, 5, none⟩ (.int .i64 0)).setCell ⟨W.heap.size, 6, none⟩ (.bool false)).cell? ⟨W.heap.size, 4, none⟩ = some (.int .i64 0) := set_other (set_other (set_same (set_other (set_other (set_other (set_other (res_4) _ (.inr (by omega))) _ (.inr (by omega))) _ (.inr (by omega))) _ (.inr (by omega))) _) _ (.inr (by omega))) _ (.inr (by omega))
              have r5 : (((((((z2.setCell ⟨W.heap.size, 0, none⟩ (.int .i64 0)).setCell ⟨W.heap.size, 1, none⟩ (.int .i64 0)).setCell ⟨W.heap.size, 2, none⟩ (.int .i64 0)).setCell ⟨W.heap.size, 3, none⟩ (.int .i64 0)).setCell ⟨W.heap.size, 4, none⟩ (.int .i64 0)).setCell ⟨W.heap.size, 5, none⟩ (.int .i64 0)).setCell ⟨W.heap.size, 6, none⟩ (.bool false)).cell? ⟨W.heap.size, 5, none⟩ = some (.int .i64 0) := set_other (set_same (set_other (set_other (set_other (set_other (set_other (res_5) _ (.inr (by omega))) _ (.inr (by omega))) _ (.inr (by omega))) _ (.inr (by omega))) _ (.inr (by omega))) _) _ (.inr (by omega))
              have r6 : (((((((z2.setCell ⟨W.heap.size, 0, none⟩ (.int .i64 0)).setCell ⟨W.heap.size, 1, none⟩ (.int .i64 0)).setCell ⟨W.heap.size, 2, none⟩ (.int .i64 0)).setCell ⟨W.heap.size, 3, none⟩ (.int .i64 0)).setCell ⟨W.heap.size, 4, none⟩ (.int .i64 0)).setCell ⟨W.heap.size, 5, none⟩ (.int .i64 0)).setCell ⟨W.heap.size, 6, none⟩ (.bool false)).cell? ⟨W.heap.size, 6, none⟩ = some (.bool false) := set_same (set_other (set_other (set_other (set_other (set_other (set_other (res_6) _ (.inr (by omega))) _ (.inr (by omega))) _ (.inr (by omega))) _ (.inr (by omega))) _ (.inr (by omega))) _ (.inr (by omega))) _
              refine bodyPost_ret (v := .tuple #[.agg #[.int .i64 0, .int .i64 0, .int .i64 0, .int .i64 0, .int .i64 0, .int .i64 0, .bool false], .bool false]) (by simp [results, Tryd.results17, go_sem, r0, r1, r2, r3, r4, r5, r6]) rfl ?_
              exact rdEvt_no (fun k key ch to amt fee y h => by obtain ⟨h1, h2, h3, h4, h5, h6, h7⟩ := HR.out k key ch to amt fee y h; subst h1 h2 h3 h4 h5 h6 h7; have ht := HTX.out.symm.trans h.2; exact evT_ne h.1 (h.2.trans ht.symm)) (((((((b2.setCell (Nat.le_refl _) _).setCell (Nat.le_refl _) _).setCell (Nat.le_refl _) _).setCell (Nat.le_refl _) _).setCell (Nat.le_refl _) _).setCell (Nat.le_refl _) _).setCell (Nat.le_refl _) _)
            · skip
              have hem : (bstr TX).toList.isEmpty = false := empty_noE h0
              by_cases hq : TX = s.data.toList
              · skip
                have hcm := cmp_same hq
                have HQ := Lib.hid hq
                have H0 := Lib.hid h0
                clear hq h0
                go_wp2_with fail
                have r0 : (((((((z2.setCell ⟨W.heap.size, 0, none⟩ (.int .i64 (K : Int))).setCell ⟨W.heap.size, 1, none⟩ (.int .i64 vk)).setCell ⟨W.heap.size, 2, none⟩ (.int .i64 vc)).setCell ⟨W.heap.size, 3, none⟩ (.int .i64 vt)).setCell ⟨W.heap.size, 4, none⟩ (.int .i64 va)).setCell ⟨W.heap.size, 5, none⟩ (.int .i64 vf)).setCell ⟨W.heap.size, 6, none⟩ (.bool false)).cell? ⟨W.heap.size, 0, none⟩ = some (.int .i64 (K : Int)) := set_other (set_other (set_other (set_other (set_other (set_other (set_same (res_0) _) _ (.inr (by omega))) _ (.inr (by omega))) _ (.inr (by omega))) _ (.inr (by omega))) _ (.inr (by omega))) _ (.inr (by omega))
                have r1 : (((((((z2.setCell ⟨W.heap.size, 0, none⟩ (.int .i64 (K : Int))).setCell ⟨W.heap.size, 1, none⟩ (.int .i64 vk)).setCell ⟨W.heap.size, 2, none⟩ (.int .i64 vc)).setCell ⟨W.heap.size, 3, none⟩ (.int .i64 vt)).setCell ⟨W.heap.size, 4, none⟩ (.int .i64 va)).setCell ⟨W.heap.size, 5, none⟩ (.int .i64 vf)).setCell ⟨W.heap.size, 6, none⟩ (.bool false)).cell? ⟨W.heap.size, 1, none⟩ = some (.int .i64 vk) := set_other (set_other (set_other (set_other (set_other (set_same (set_other (res_1) _ (.inr (by omega))) _) _ (.inr (by omega))) _ (.inr (by omega))) _ (.inr (by omega))) _ (.inr (by omega))) _ (.inr (by omega))
                have r2 : (((((((z2.setCell ⟨W.heap.size, 0, none⟩ (.int .i64 (K : Int))).setCell ⟨W.heap.size, 1, none⟩ (.int .i64 vk)).setCell ⟨W.heap.size, 2, none⟩ (.int .i64 vc)).setCell ⟨W.heap.size, 3, none⟩ (.int .i64 vt)).setCell ⟨W.heap.size, 4, none⟩ (.int .i64 va)).setCell ⟨W.heap.size, 5, none⟩ (.int .i64 vf)).setCell ⟨W.heap.size, 6, none⟩ (.bool false)).cell? ⟨W.heap.size, 2, none⟩ = some (.int .i64 vc) := set_other (set_other (set_other (set_other (set_same (set_other (set_other (res_2) _ (.inr (by omega))) _ (.inr (by omega))) _) _ (.inr (by omega))) _ (.inr (by omega))) _ (.inr (by omega))) _ (.inr (by omega))
                have r3 : (((((((z2.setCell ⟨W.heap.size, 0, none⟩ (.int .i64 (K : Int))).setCell ⟨W.heap.size, 1, none⟩ (.int .i64 vk)).setCell ⟨W.heap.size, 2, none⟩ (.int .i64 vc)).setCell ⟨W.heap.size, 3, none⟩ (.int .i64 vt)).setCell ⟨W.heap.size, 4, none⟩ (.int .i64 va)).setCell ⟨W.heap.size, 5, none⟩ (.int .i64 vf)).setCell ⟨W.heap.size, 6, none⟩ (.bool false)).cell? ⟨W.heap.size, 3, none⟩ = some (.int .i64 vt) := set_other (set_other (set_other (set_same (set_other (set_other (set_other (res_3) _ (.inr (by omega))) _ (.inr (by omega))) _ (.inr (by omega))) _) _ (.inr (by omega))) _ (.inr (by omega))) _ (.inr (by omega))
                have r4 : (((((((z2.setCell ⟨W.heap.size, 0, none⟩ (.int .i64 (K : Int))).setCell ⟨W.heap.size, 1, none⟩ (.int .i64 vk)).setCell ⟨W.heap.size, 2, none⟩ (.int .i64 vc)).setCell ⟨W.heap.size, 3, none⟩ (.int .i64 vt)).setCell ⟨W.heap.size, 4, none⟩ (.int .i64 va)).setCell ⟨W.heap.size, 5, none⟩ (.int .i64 vf)).setCell ⟨W.heap.size, 6, none⟩ (.bool false)).cell? ⟨W.heap.size, 4, none⟩ = some (.int .i64 va) := set_other (set_other (set_same (set_other (set_other (set_other (set_other (res_4) _ (.inr (by omega))) _ (.inr (by omega))) _ (.inr (by omega))) _ (.inr (by omega))) _) _ (.inr (by omega))) _ (.inr (by omega))
                have r5 : (((((((z2.setCell ⟨W.heap.size, 0, none⟩ (.int .i64 (K : Int))).setCell ⟨W.heap.size, 1, none⟩ (.int .i64 vk)).setCell ⟨W.heap.size, 2, none⟩ (.int .i64 vc)).setCell ⟨W.heap.size, 3, none⟩ (.int .i64 vt)).setCell ⟨W.heap.size, 4, none⟩ (.int .i64 va)).setCell ⟨W.heap.size, 5, none⟩ (.int .i64 vf)).setCell ⟨W.heap.size, 6, none⟩ (.bool false)).cell? ⟨W.heap.size, 5, none⟩ = some (.int .i64 vf) := set_other (set_same (set_other (set_other (set_other (set_other (set_other (res_5) _ (.inr (by omega))) _ (.inr (by omega))) _ (.inr (by omega))) _ (.inr (by omega))) _ (.inr (by omega))) _) _ (.inr (by omega))
                have r6 : (((((((z2.setCell ⟨W.heap.size, 0, none⟩ (.int .i64 (K : Int))).setCell ⟨W.heap.size, 1, none⟩ (.int .i64 vk)).setCell ⟨W.heap.size, 2, none⟩ (.int .i64 vc)).setCell ⟨W.heap.size, 3, none⟩ (.int .i64 vt)).setCell ⟨W.heap.size, 4, none⟩ (.int .i64 va)).setCell ⟨W.heap.size, 5, none⟩ (.int .i64 vf)).setCell ⟨W.heap.size, 6, none⟩ (.bool false)).cell? ⟨W.heap.size, 6, none⟩ = some (.bool false) := set_same (set_other (set_other (set_other (set_other (set_other (set_other (res_6) _ (.inr (by omega))) _ (.inr (by omega))) _ (.inr (by omega))) _ (.inr (by omega))) _ (.inr (by omega))) _ (.inr (by omega))) _
                refine bodyPost_ret (v := .tuple #[.agg #[.int .i64 (K : Int), .int .i64 vk, .int .i64 vc, .int .i64 vt, .int .i64 va, .int .i64 vf, .bool false], .bool true]) (by simp [results, Tryd.results17, go_sem, r0, r1, r2, r3, r4, r5, r6]) rfl ?_
                exact rdEvt_yes ⟨evT_ok H0.out HTX.out, HTX.out.trans HQ.out⟩ (((((((b2.setCell (Nat.le_refl _) _).setCell (Nat.le_refl _) _).setCell (Nat.le_refl _) _).setCell (Nat.le_refl _) _).setCell (Nat.le_refl _) _).setCell (Nat.le_refl _) _).setCell (Nat.le_refl _) _)
              · skip
                have hcm := cmp_other hq
                have HQ := Lib.hid hq
                clear hq
                go_wp2_with fail
                have r0 : (((((((z2.setCell ⟨W.heap.size, 0, none⟩ (.int .i64 0)).setCell ⟨W.heap.size, 1, none⟩ (.int .i64 0)).setCell ⟨W.heap.size, 2, none⟩ (.int .i64 0)).setCell ⟨W.heap.size, 3, none⟩ (.int .i64 0)).setCell ⟨W.heap.size, 4, none⟩ (.int .i64 0)).setCell ⟨W.heap.size, 5, none⟩ (.int .i64 0)).setCell ⟨W.heap.size, 6, none⟩ (.bool false)).cell? ⟨W.heap.size, 0, none⟩ = some (.int .i64 0) := set_other (set_other (set_other (set_other (set_other (set_other (set_same (res_0) _) _ (.inr (by omega))) _ (.inr (by omega))) _ (.inr (by omega))) _ (.inr (by omega))) _ (.inr (by omega))) _ (.inr (by omega))
                have r1 : (((((((z2.setCell ⟨W.heap.size, 0, none⟩ (.int .i64 0)).setCell ⟨W.heap.size, 1, none⟩ (.int .i64 0)).setCell ⟨W.heap.size, 2, none⟩ (.int .i64 0)).setCell ⟨W.heap.size, 3, none⟩ (.int .i64 0)).setCell ⟨W.heap.size, 4, none⟩ (.int .i64 0)).setCell ⟨W.heap.size, 5, none⟩ (.int .i64 0)).setCell ⟨W.heap.size, 6, none⟩ (.bool false)).cell? ⟨W.heap.size, 1, none⟩ = some (.int .i64 0) := set_other (set_other (set_other (set_other (set_other (set_same (set_other (res_1) _ (.inr (by omega))) _) _ (.inr (by omega))) _ (.inr (by omega))) _ (.inr (by omega))) _ (.inr (by omega))) _ (.inr (by omega))
                have r2 : (((((((z2.setCell ⟨W.heap.size, 0, none⟩ (.int .i64 0)).setCell ⟨W.heap.size, 1, none⟩ (.int .i64 0)).setCell ⟨W.heap.size, 2, none⟩ (.int .i64 0)).setCell ⟨W.heap.size, 3, none⟩ (.int .i64 0)).setCell ⟨W.heap.size, 4, none⟩ (.int .i64 0)).setCell ⟨W.heap.size, 5, none⟩ (.int .i64 0)).setCell ⟨W.heap.size, 6, none⟩ (.bool false)).cell? ⟨W.heap.size, 2, none⟩ = some (.int .i64 0) := set_other (set_other (set_other (set_other (set_same (set_other (set_other (res_2) _ (.inr (by omega))) _ (.inr (by omega))) _) _ (.inr (by omega))) _ (.inr (by omega))) _ (.inr (by omega))) _ (.inr (by omega))
                have r3 : (((((((z2.setCell ⟨W.heap.size, 0, none⟩ (.int .i64 0)).setCell ⟨W.heap.size, 1, none⟩ (.int .i64 0)).setCell ⟨W.heap.size, 2, none⟩ (.int .i64 0)).setCell ⟨W.heap.size, 3, none⟩ (.int .i64 0)).setCell ⟨W.heap.size, 4, none⟩ (.int .i64 0)).setCell ⟨W.heap.size, 5, none⟩ (.int .i64 0)).setCell ⟨W.heap.size, 6, none⟩ (.bool false)).cell? ⟨W.heap.size, 3, none⟩ = some (.int .i64 0) := set_other (set_other (set_other (set_same (set_other (set_other (set_other (res_3) _ (.inr (by omega))) _ (.inr (by omega))) _ (.inr (by omega))) _) _ (.inr (by omega))) _ (.inr (by omega))) _ (.inr (by omega))
                have r4 : (((((((z2.setCell ⟨W.heap.size, 0, none⟩ (.int .i64 0)).setCell ⟨W.heap.size, 1, none⟩ (.int .i64 0)).setCell ⟨W.heap.size, 2, none⟩ (.int .i64 0)).setCell ⟨W.heap.size, 3, none⟩ (.int .i64 0)).setCell ⟨W.heap.size, 4, none⟩ (.int .i64 0)).setCell ⟨W.heap.size, 5, none⟩ (.int .i64 0)).setCell ⟨W.heap.size, 6, none⟩ (.bool false)).cell? ⟨W.heap.size, 4, none⟩ = some (.int .i64 0) := set_other (set_other (set_same (set_other (set_other (set_other (set_other (res_4) _ (.inr (by omega))) _ (.inr (by omega))) _ (.inr (by omega))) _ (.inr (by omega))) _) _ (.inr (by omega))) _ (.inr (by omega))
                have r5 : (((((((z2.setCell ⟨W.heap.size, 0, none⟩ (.int .i64 0)).setCell ⟨W.heap.size, 1, none⟩ (.int .i64 0)).setCell ⟨W.heap.size, 2, none⟩ (.int .i64 0)).setCell ⟨W.heap.size, 3, none⟩ (.int .i64 0)).setCell ⟨W.heap.size, 4, none⟩ (.int .i64 0)).setCell ⟨W.heap.size, 5, none⟩ (.int .i64 0)).setCell ⟨W.heap.size, 6, none⟩ (.bool false)).cell? ⟨W.heap.size, 5, none⟩ = some (.int .i64 0) := set_other (set_same (set_other (set_other (set_other (set_other (set_other (res_5) _ (.inr (by omega))) _ (.inr (by omega))) _ (.inr (by omega))) _ (.inr (by omega))) _ (.inr (by omega))) _) _ (.inr (by omega))
                have r6 : (((((((z2.setCell ⟨W.heap.size, 0, none⟩ (.int .i64 0)).setCell ⟨W.heap.size, 1, none⟩ (.int .i64 0)).setCell ⟨W.heap.size, 2, none⟩ (.int .i64 0)).setCell ⟨W.heap.size, 3, none⟩ (.int .i64 0)).setCell ⟨W.heap.size, 4, none⟩ (.int .i64 0)).setCell ⟨W.heap.size, 5, none⟩ (.int .i64 0)).setCell ⟨W.heap.size, 6, none⟩ (.bool false)).cell? ⟨W.heap.size, 6, none⟩ = some (.bool false) := set_same (set_other (set_other (set_other (set_other (set_other (set_other (res_6) _ (.inr (by omega))) _ (.inr (by omega))) _ (.inr (by omega))) _ (.inr (by omega))) _ (.inr (by omega))) _ (.inr (by omega))) _
                refine bodyPost_ret (v := .tuple #[.agg #[.int .i64 0, .int .i64 0, .int .i64 0, .int .i64 0, .int .i64 0, .int .i64 0, .bool false], .bool false]) (by simp [results, Tryd.results17, go_sem, r0, r1, r2, r3, r4, r5, r6]) rfl ?_
                exact rdEvt_no (fun k key ch to amt fee y h => by obtain ⟨h1, h2, h3, h4, h5, h6, h7⟩ := HR.out k key ch to amt fee y h; subst h1 h2 h3 h4 h5 h6 h7; have ht := HTX.out.symm.trans h.2; exact HQ.out ht) (((((((b2.setCell (Nat.le_refl _) _).setCell (Nat.le_refl _) _).setCell (Nat.le_refl _) _).setCell (Nat.le_refl _) _).setCell (Nat.le_refl _) _).setCell (Nat.le_refl _) _).setCell (Nat.le_refl _) _)
end Go.Proofs.YtnjdmmdbminmoaaDoor
