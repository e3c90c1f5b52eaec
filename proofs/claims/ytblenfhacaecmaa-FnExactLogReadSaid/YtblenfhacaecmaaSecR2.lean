/- SectorRead: the reference where the sector is of the right length; program and reference joined. -/
import Derived.Test.YtblenfhacaecmaaSecR
namespace Go.Proofs.Ytblenfhacaecmaa
open Go.RowKit
set_option maxHeartbeats 4000000 in
set_option maxRecDepth 100000 in
theorem spec_SectorRead_fit (Q P m : Nat) (A : Option Addr) (c : Nat) (l : List UInt8) (_hnc : 128 ≤ c) (hc : c ≤ 9223372036854775807) (HL : Hid (l.length = 128)) (HQ : Hid (rdQ l = Q)) (HP : Hid (rdP l = P)) (HM : Hid (rdM l = m)) (HM1 : Hid (beNat ((l.drop 7).take 1) = m))
    (_hm : m ≤ 100) (W : World) (hr : Rd W W.heap.size 1 A 128 (Lib.byteCells l)) : Calls Try.prog 68 #[.slice A 128 c] W (SecR l W) := by
  obtain ⟨b, off, rfl, hbB, hcell⟩ := hr.form (by omega)
  clear hcell
  rcases hok : secOk Q P m with _ | _
  · skip
    obtain ⟨i0, hi0, hj0, hj1, hj2⟩ := info_parts info_u8
    go_enter Try.func68, Try.ntmps68
    go_wp2_with fail
    have he1 : Eff 0 0 W (W.alloc (.cells #[.int .i64 0, .int .i64 0, .slice none 0 0] 91)) := Eff.alloc _ _
    have hs1 : (W.alloc (.cells #[.int .i64 0, .int .i64 0, .slice none 0 0] 91)).heap.size = W.heap.size + 1 := (by simp)
    have res_0 : (W.alloc (.cells #[.int .i64 0, .int .i64 0, .slice none 0 0] 91)).cell? ⟨W.heap.size, 0, none⟩ = some (.int .i64 0) := var_cell _ _ _ _ _ rfl
    have res_1 : (W.alloc (.cells #[.int .i64 0, .int .i64 0, .slice none 0 0] 91)).cell? ⟨W.heap.size, 1, none⟩ = some (.int .i64 0) := var_cell _ _ _ _ _ rfl
    have res_2 : (W.alloc (.cells #[.int .i64 0, .int .i64 0, .slice none 0 0] 91)).cell? ⟨W.heap.size, 2, none⟩ = some (.slice none 0 0) := var_cell _ _ _ _ _ rfl
    have res_f0 : (W.alloc (.cells #[.int .i64 0, .int .i64 0, .slice none 0 0] 91)).frozen? ⟨W.heap.size, 0, none⟩ = false := var_frozen _ _ _ _
    have res_f1 : (W.alloc (.cells #[.int .i64 0, .int .i64 0, .slice none 0 0] 91)).frozen? ⟨W.heap.size, 1, none⟩ = false := var_frozen _ _ _ _
    have res_f2 : (W.alloc (.cells #[.int .i64 0, .int .i64 0, .slice none 0 0] 91)).frozen? ⟨W.heap.size, 2, none⟩ = false := var_frozen _ _ _ _
    generalize (W.alloc (.cells #[.int .i64 0, .int .i64 0, .slice none 0 0] 91)) = w1 at *
    have hz1 : W.heap.size ≤ w1.heap.size := he1.size
    have b1 : Below W.heap.size W w1 := he1.below (Nat.le_refl _) (by omega)
    replace hr := (hr.below (he1.below (B := W.heap.size) (by omega) (by omega)) (Nat.le_refl _))
    have res_l : W.heap.size < w1.heap.size := (by omega)
    have he2 : Eff 0 0 w1 (w1.alloc (.cells #[.int .i64 0, .int .i64 0, .slice none 0 0] 91)) := Eff.alloc _ _
    have hs2 : (w1.alloc (.cells #[.int .i64 0, .int .i64 0, .slice none 0 0] 91)).heap.size = w1.heap.size + 1 := (by simp)
    have s_0 : (w1.alloc (.cells #[.int .i64 0, .int .i64 0, .slice none 0 0] 91)).cell? ⟨w1.heap.size, 0, none⟩ = some (.int .i64 0) := var_cell _ _ _ _ _ rfl
    have s_1 : (w1.alloc (.cells #[.int .i64 0, .int .i64 0, .slice none 0 0] 91)).cell? ⟨w1.heap.size, 1, none⟩ = some (.int .i64 0) := var_cell _ _ _ _ _ rfl
    have s_2 : (w1.alloc (.cells #[.int .i64 0, .int .i64 0, .slice none 0 0] 91)).cell? ⟨w1.heap.size, 2, none⟩ = some (.slice none 0 0) := var_cell _ _ _ _ _ rfl
    have s_f0 : (w1.alloc (.cells #[.int .i64 0, .int .i64 0, .slice none 0 0] 91)).frozen? ⟨w1.heap.size, 0, none⟩ = false := var_frozen _ _ _ _
    have s_f1 : (w1.alloc (.cells #[.int .i64 0, .int .i64 0, .slice none 0 0] 91)).frozen? ⟨w1.heap.size, 1, none⟩ = false := var_frozen _ _ _ _
    have s_f2 : (w1.alloc (.cells #[.int .i64 0, .int .i64 0, .slice none 0 0] 91)).frozen? ⟨w1.heap.size, 2, none⟩ = false := var_frozen _ _ _ _
    generalize (w1.alloc (.cells #[.int .i64 0, .int .i64 0, .slice none 0 0] 91)) = w2 at *
    have hz2 : w1.heap.size ≤ w2.heap.size := he2.size
    have b2 : Below W.heap.size W w2 := b1.trans (he2.below b1.size (by omega))
    replace hr := (hr.below (he2.below (B := W.heap.size) (by omega) (by omega)) (Nat.le_refl _))
    replace res_f0 := (he2.frozen res_0 (by simp only; omega)).trans res_f0
    replace res_f1 := (he2.frozen res_1 (by simp only; omega)).trans res_f1
    replace res_f2 := (he2.frozen res_2 (by simp only; omega)).trans res_f2
    replace res_0 := he2.cell res_0 (by simp only; omega)
    replace res_1 := he2.cell res_1 (by simp only; omega)
    replace res_2 := he2.cell res_2 (by simp only; omega)
    replace res_l := Nat.lt_of_lt_of_le res_l hz2
    rw [hs1] at s_0 s_f0
    rw [hs1] at s_1 s_f1
    rw [hs1] at s_2 s_f2
    have s_l : W.heap.size + 1 < w2.heap.size := (by omega)
    refine (spec_GetNum_ok _ 128 _ l 1 3 (by omega) (by omega) (by omega) (by omega) w2 (hr.more (by omega))).mono ?_
    rintro e w3 ⟨rfl, hb⟩
    have he3 : Eff 0 0 w2 w3 := Eff.of hb
    have hz3 : w2.heap.size ≤ w3.heap.size := he3.size
    have b3 : Below W.heap.size W w3 := b2.trans (he3.below b2.size (by omega))
    replace hr := (hr.below (he3.below (B := W.heap.size) (by omega) (by omega)) (Nat.le_refl _))
    replace res_f0 := (he3.frozen res_0 (by simp only; omega)).trans res_f0
    replace res_f1 := (he3.frozen res_1 (by simp only; omega)).trans res_f1
    replace res_f2 := (he3.frozen res_2 (by simp only; omega)).trans res_f2
    replace s_f0 := (he3.frozen s_0 (by simp only; omega)).trans s_f0
    replace s_f1 := (he3.frozen s_1 (by simp only; omega)).trans s_f1
    replace s_f2 := (he3.frozen s_2 (by simp only; omega)).trans s_f2
    replace res_0 := he3.cell res_0 (by simp only; omega)
    replace res_1 := he3.cell res_1 (by simp only; omega)
    replace res_2 := he3.cell res_2 (by simp only; omega)
    replace s_0 := he3.cell s_0 (by simp only; omega)
    replace s_1 := he3.cell s_1 (by simp only; omega)
    replace s_2 := he3.cell s_2 (by simp only; omega)
    replace res_l := Nat.lt_of_lt_of_le res_l hz3
    replace s_l := Nat.lt_of_lt_of_le s_l hz3
    clear hb
    rw [show beNat ((l.drop 1).take 3) = Q from HQ.out]
    go_wp2_with fail
    have he4 : Eff (W.heap.size + 1) (W.heap.size + 1 + 1) w3 (w3.setCell ⟨W.heap.size + 1, 0, none⟩ (.int .i64 (Q : Int))) := eff_set _ _ _ _
    replace res_f0 := (he4.frozen res_0 (by simp only; omega)).trans res_f0
    replace res_f1 := (he4.frozen res_1 (by simp only; omega)).trans res_f1
    replace res_f2 := (he4.frozen res_2 (by simp only; omega)).trans res_f2
    replace s_f0 := set_frozen (p := ⟨W.heap.size + 1, 0, none⟩) s_f0 (.int .i64 (Q : Int))
    replace s_f1 := set_frozen (p := ⟨W.heap.size + 1, 0, none⟩) s_f1 (.int .i64 (Q : Int))
    replace s_f2 := set_frozen (p := ⟨W.heap.size + 1, 0, none⟩) s_f2 (.int .i64 (Q : Int))
    replace res_0 := he4.cell res_0 (by simp only; omega)
    replace res_1 := he4.cell res_1 (by simp only; omega)
    replace res_2 := he4.cell res_2 (by simp only; omega)
    replace s_0 := set_same s_0 (.int .i64 (Q : Int))
    replace s_1 := set_other (b' := W.heap.size + 1) (o' := 0) s_1 (.int .i64 (Q : Int)) (.inr (by omega))
    replace s_2 := set_other (b' := W.heap.size + 1) (o' := 0) s_2 (.int .i64 (Q : Int)) (.inr (by omega))
    have hz4 : w3.heap.size ≤ (w3.setCell ⟨W.heap.size + 1, 0, none⟩ (.int .i64 (Q : Int))).heap.size := he4.size
    generalize (w3.setCell ⟨W.heap.size + 1, 0, none⟩ (.int .i64 (Q : Int))) = w4 at *
    have b4 : Below W.heap.size W w4 := b3.trans (he4.below b3.size (by omega))
    replace hr := (hr.below (he4.below (B := W.heap.size) (by omega) (by omega)) (Nat.le_refl _))
    replace res_l := Nat.lt_of_lt_of_le res_l hz4
    replace s_l := Nat.lt_of_lt_of_le s_l hz4
    refine (spec_GetNum_ok _ 128 _ l 4 3 (by omega) (by omega) (by omega) (by omega) w4 (hr.more (by omega))).mono ?_
    rintro e w5 ⟨rfl, hb⟩
    have he5 : Eff 0 0 w4 w5 := Eff.of hb
    have hz5 : w4.heap.size ≤ w5.heap.size := he5.size
    have b5 : Below W.heap.size W w5 := b4.trans (he5.below b4.size (by omega))
    replace hr := (hr.below (he5.below (B := W.heap.size) (by omega) (by omega)) (Nat.le_refl _))
    replace res_f0 := (he5.frozen res_0 (by simp only; omega)).trans res_f0
    replace res_f1 := (he5.frozen res_1 (by simp only; omega)).trans res_f1
    replace res_f2 := (he5.frozen res_2 (by simp only; omega)).trans res_f2
    replace s_f0 := (he5.frozen s_0 (by simp only; omega)).trans s_f0
    replace s_f1 := (he5.frozen s_1 (by simp only; omega)).trans s_f1
    replace s_f2 := (he5.frozen s_2 (by simp only; omega)).trans s_f2
    replace res_0 := he5.cell res_0 (by simp only; omega)
    replace res_1 := he5.cell res_1 (by simp only; omega)
    replace res_2 := he5.cell res_2 (by simp only; omega)
    replace s_0 := he5.cell s_0 (by simp only; omega)
    replace s_1 := he5.cell s_1 (by simp only; omega)
    replace s_2 := he5.cell s_2 (by simp only; omega)
    replace res_l := Nat.lt_of_lt_of_le res_l hz5
    replace s_l := Nat.lt_of_lt_of_le s_l hz5
    clear hb
    rw [show beNat ((l.drop 4).take 3) = P from HP.out]
    go_wp2_with fail
    have he6 : Eff (W.heap.size + 1) (W.heap.size + 1 + 1) w5 (w5.setCell ⟨W.heap.size + 1, 1, none⟩ (.int .i64 (P : Int))) := eff_set _ _ _ _
    replace res_f0 := (he6.frozen res_0 (by simp only; omega)).trans res_f0
    replace res_f1 := (he6.frozen res_1 (by simp only; omega)).trans res_f1
    replace res_f2 := (he6.frozen res_2 (by simp only; omega)).trans res_f2
    replace s_f0 := set_frozen (p := ⟨W.heap.size + 1, 1, none⟩) s_f0 (.int .i64 (P : Int))
    replace s_f1 := set_frozen (p := ⟨W.heap.size + 1, 1, none⟩) s_f1 (.int .i64 (P : Int))
    replace s_f2 := set_frozen (p := ⟨W.heap.size + 1, 1, none⟩) s_f2 (.int .i64 (P : Int))
    replace res_0 := he6.cell res_0 (by simp only; omega)
    replace res_1 := he6.cell res_1 (by simp only; omega)
    replace res_2 := he6.cell res_2 (by simp only; omega)
    replace s_0 := set_other (b' := W.heap.size + 1) (o' := 1) s_0 (.int .i64 (P : Int)) (.inr (by omega))
    replace s_1 := set_same s_1 (.int .i64 (P : Int))
    replace s_2 := set_other (b' := W.heap.size + 1) (o' := 1) s_2 (.int .i64 (P : Int)) (.inr (by omega))
    have hz6 : w5.heap.size ≤ (w5.setCell ⟨W.heap.size + 1, 1, none⟩ (.int .i64 (P : Int))).heap.size := he6.size
    generalize (w5.setCell ⟨W.heap.size + 1, 1, none⟩ (.int .i64 (P : Int))) = w6 at *
    have b6 : Below W.heap.size W w6 := b5.trans (he6.below b5.size (by omega))
    replace hr := (hr.below (he6.below (B := W.heap.size) (by omega) (by omega)) (Nat.le_refl _))
    replace res_l := Nat.lt_of_lt_of_le res_l hz6
    replace s_l := Nat.lt_of_lt_of_le s_l hz6
    refine (spec_GetNum_ok _ 128 _ l 7 1 (by omega) (by omega) (by omega) (by omega) w6 (hr.more (by omega))).mono ?_
    rintro e w7 ⟨rfl, hb⟩
    have he7 : Eff 0 0 w6 w7 := Eff.of hb
    have hz7 : w6.heap.size ≤ w7.heap.size := he7.size
    have b7 : Below W.heap.size W w7 := b6.trans (he7.below b6.size (by omega))
    replace hr := (hr.below (he7.below (B := W.heap.size) (by omega) (by omega)) (Nat.le_refl _))
    replace res_f0 := (he7.frozen res_0 (by simp only; omega)).trans res_f0
    replace res_f1 := (he7.frozen res_1 (by simp only; omega)).trans res_f1
    replace res_f2 := (he7.frozen res_2 (by simp only; omega)).trans res_f2
    replace s_f0 := (he7.frozen s_0 (by simp only; omega)).trans s_f0
    replace s_f1 := (he7.frozen s_1 (by simp only; omega)).trans s_f1
    replace s_f2 := (he7.frozen s_2 (by simp only; omega)).trans s_f2
    replace res_0 := he7.cell res_0 (by simp only; omega)
    replace res_1 := he7.cell res_1 (by simp only; omega)
    replace res_2 := he7.cell res_2 (by simp only; omega)
    replace s_0 := he7.cell s_0 (by simp only; omega)
    replace s_1 := he7.cell s_1 (by simp only; omega)
    replace s_2 := he7.cell s_2 (by simp only; omega)
    replace res_l := Nat.lt_of_lt_of_le res_l hz7
    replace s_l := Nat.lt_of_lt_of_le s_l hz7
    clear hb
    rw [HM1.out]
    go_wp2_with (at_builtin; refine wpList_app _ rfl _ _ 27 rfl 5 i0 (.int .u8 0) 1 1 Try.underlying27 hi0 hj0 hj1 hj2 rfl (by omega) rfl (new_empty w7 5 1) (c - 8) rfl (by rw [Nat.add_sub_cancel_left]; exact (hr.sub (lo := 8) (m := m) (by omega)).alloc (by omega) _) (byteCells_one' _) (by unfold maxLen; omega) (by omega) (by simp) ?_; intro Ay cy w8 y hE _; have he8 : Eff 0 0 w7 w8 := Eff.join (Eff.alloc _ _) hE (Nat.le_refl _); have hz8 : w7.heap.size ≤ w8.heap.size := he8.size; clear hE; replace y : OwnB w8 (w7.heap.size) (w8.heap.size) Ay m cy (((l.drop 8).take m)) := (by unfold OwnB; simpa only [Nat.zero_add, Nat.add_sub_cancel_left, List.nil_append] using y); simp only [Nat.zero_add, Nat.add_sub_cancel_left]; have b8 : Below W.heap.size W w8 := b7.trans (he8.below b7.size (by omega)); replace hr := (hr.below (he8.below (B := W.heap.size) (by omega) (by omega)) (Nat.le_refl _)); replace res_f0 := (he8.frozen res_0 (by simp only; omega)).trans res_f0; replace res_f1 := (he8.frozen res_1 (by simp only; omega)).trans res_f1; replace res_f2 := (he8.frozen res_2 (by simp only; omega)).trans res_f2; replace s_f0 := (he8.frozen s_0 (by simp only; omega)).trans s_f0; replace s_f1 := (he8.frozen s_1 (by simp only; omega)).trans s_f1; replace s_f2 := (he8.frozen s_2 (by simp only; omega)).trans s_f2; replace res_0 := he8.cell res_0 (by simp only; omega); replace res_1 := he8.cell res_1 (by simp only; omega); replace res_2 := he8.cell res_2 (by simp only; omega); replace s_0 := he8.cell s_0 (by simp only; omega); replace s_1 := he8.cell s_1 (by simp only; omega); replace s_2 := he8.cell s_2 (by simp only; omega); replace res_l := Nat.lt_of_lt_of_le res_l hz8; replace s_l := Nat.lt_of_lt_of_le s_l hz8)
    have he9 : Eff (W.heap.size + 1) (W.heap.size + 1 + 1) w8 (w8.setCell ⟨W.heap.size + 1, 2, none⟩ (.slice Ay m cy)) := eff_set _ _ _ _
    replace res_f0 := (he9.frozen res_0 (by simp only; omega)).trans res_f0
    replace res_f1 := (he9.frozen res_1 (by simp only; omega)).trans res_f1
    replace res_f2 := (he9.frozen res_2 (by simp only; omega)).trans res_f2
    replace s_f0 := set_frozen (p := ⟨W.heap.size + 1, 2, none⟩) s_f0 (.slice Ay m cy)
    replace s_f1 := set_frozen (p := ⟨W.heap.size + 1, 2, none⟩) s_f1 (.slice Ay m cy)
    replace s_f2 := set_frozen (p := ⟨W.heap.size + 1, 2, none⟩) s_f2 (.slice Ay m cy)
    replace res_0 := he9.cell res_0 (by simp only; omega)
    replace res_1 := he9.cell res_1 (by simp only; omega)
    replace res_2 := he9.cell res_2 (by simp only; omega)
    replace s_0 := set_other (b' := W.heap.size + 1) (o' := 2) s_0 (.slice Ay m cy) (.inr (by omega))
    replace s_1 := set_other (b' := W.heap.size + 1) (o' := 2) s_1 (.slice Ay m cy) (.inr (by omega))
    replace s_2 := set_same s_2 (.slice Ay m cy)
    have hz9 : w8.heap.size ≤ (w8.setCell ⟨W.heap.size + 1, 2, none⟩ (.slice Ay m cy)).heap.size := he9.size
    generalize (w8.setCell ⟨W.heap.size + 1, 2, none⟩ (.slice Ay m cy)) = w9 at *
    have b9 : Below W.heap.size W w9 := b8.trans (he9.below b8.size (by omega))
    replace hr := (hr.below (he9.below (B := W.heap.size) (by omega) (by omega)) (Nat.le_refl _))
    replace y := y.keep he9 (by omega)
    replace res_l := Nat.lt_of_lt_of_le res_l hz9
    replace s_l := Nat.lt_of_lt_of_le s_l hz9
    have HG := Lib.hid (good_ok (l := l) (by rw [HQ.out, HP.out, HM.out]; exact hok))
    refine (spec_SectorBytes (Q : Int) (P : Int) _ m _ ((l.drop 8).take m) (by omega) w9 (y.rd (by omega))).mono ?_
    rintro e w10 hpost
    rw [hok] at hpost
    obtain ⟨rfl, hb⟩ := hpost.not
    clear hpost
    have he10 : Eff 0 0 w9 w10 := Eff.of hb
    have hz10 : w9.heap.size ≤ w10.heap.size := he10.size
    have b10 : Below W.heap.size W w10 := b9.trans (he10.below b9.size (by omega))
    replace hr := (hr.below (he10.below (B := W.heap.size) (by omega) (by omega)) (Nat.le_refl _))
    replace y := y.keep he10 (by omega)
    replace res_f0 := (he10.frozen res_0 (by simp only; omega)).trans res_f0
    replace res_f1 := (he10.frozen res_1 (by simp only; omega)).trans res_f1
    replace res_f2 := (he10.frozen res_2 (by simp only; omega)).trans res_f2
    replace s_f0 := (he10.frozen s_0 (by simp only; omega)).trans s_f0
    replace s_f1 := (he10.frozen s_1 (by simp only; omega)).trans s_f1
    replace s_f2 := (he10.frozen s_2 (by simp only; omega)).trans s_f2
    replace res_0 := he10.cell res_0 (by simp only; omega)
    replace res_1 := he10.cell res_1 (by simp only; omega)
    replace res_2 := he10.cell res_2 (by simp only; omega)
    replace s_0 := he10.cell s_0 (by simp only; omega)
    replace s_1 := he10.cell s_1 (by simp only; omega)
    replace s_2 := he10.cell s_2 (by simp only; omega)
    replace res_l := Nat.lt_of_lt_of_le res_l hz10
    replace s_l := Nat.lt_of_lt_of_le s_l hz10
    clear hb
    go_wp2
    refine bodyPost_ret (v := .tuple #[.agg #[.int .i64 0, .int .i64 0, .slice none 0 0], .bool false]) (by simp [results, Try.results68, go_sem, *]) rfl ?_
    refine SecR.no HG.out ?_
    repeat' (first | exact Below.refl _ _ | (refine Below.alloc ?_ ?_ _) | (refine Below.drew ?_) | (refine Below.setCell ?_ ?_ _) | (refine Below.trans ?_ (Below.mono (by assumption) ?_)) | omega | (simp; omega) | (simp; done) | exact Below.size (by assumption) | (refine Nat.le_trans ?_ (Below.size (by assumption))))
  · by_cases heq : secBytes Q P m ((l.drop 8).take m) = l
    · skip
      obtain ⟨i0, hi0, hj0, hj1, hj2⟩ := info_parts info_u8
      go_enter Try.func68, Try.ntmps68
      go_wp2_with fail
      have he1 : Eff 0 0 W (W.alloc (.cells #[.int .i64 0, .int .i64 0, .slice none 0 0] 91)) := Eff.alloc _ _
      have hs1 : (W.alloc (.cells #[.int .i64 0, .int .i64 0, .slice none 0 0] 91)).heap.size = W.heap.size + 1 := (by simp)
      have res_0 : (W.alloc (.cells #[.int .i64 0, .int .i64 0, .slice none 0 0] 91)).cell? ⟨W.heap.size, 0, none⟩ = some (.int .i64 0) := var_cell _ _ _ _ _ rfl
      have res_1 : (W.alloc (.cells #[.int .i64 0, .int .i64 0, .slice none 0 0] 91)).cell? ⟨W.heap.size, 1, none⟩ = some (.int .i64 0) := var_cell _ _ _ _ _ rfl
      have res_2 : (W.alloc (.cells #[.int .i64 0, .int .i64 0, .slice none 0 0] 91)).cell? ⟨W.heap.size, 2, none⟩ = some (.slice none 0 0) := var_cell _ _ _ _ _ rfl
      have res_f0 : (W.alloc (.cells #[.int .i64 0, .int .i64 0, .slice none 0 0] 91)).frozen? ⟨W.heap.size, 0, none⟩ = false := var_frozen _ _ _ _
      have res_f1 : (W.alloc (.cells #[.int .i64 0, .int .i64 0, .slice none 0 0] 91)).frozen? ⟨W.heap.size, 1, none⟩ = false := var_frozen _ _ _ _
      have res_f2 : (W.alloc (.cells #[.int .i64 0, .int .i64 0, .slice none 0 0] 91)).frozen? ⟨W.heap.size, 2, none⟩ = false := var_frozen _ _ _ _
      generalize (W.alloc (.cells #[.int .i64 0, .int .i64 0, .slice none 0 0] 91)) = w1 at *
      have hz1 : W.heap.size ≤ w1.heap.size := he1.size
      have b1 : Below W.heap.size W w1 := he1.below (Nat.le_refl _) (by omega)
      replace hr := (hr.below (he1.below (B := W.heap.size) (by omega) (by omega)) (Nat.le_refl _))
      have res_l : W.heap.size < w1.heap.size := (by omega)
      have he2 : Eff 0 0 w1 (w1.alloc (.cells #[.int .i64 0, .int .i64 0, .slice none 0 0] 91)) := Eff.alloc _ _
      have hs2 : (w1.alloc (.cells #[.int .i64 0, .int .i64 0, .slice none 0 0] 91)).heap.size = w1.heap.size + 1 := (by simp)
      have s_0 : (w1.alloc (.cells #[.int .i64 0, .int .i64 0, .slice none 0 0] 91)).cell? ⟨w1.heap.size, 0, none⟩ = some (.int .i64 0) := var_cell _ _ _ _ _ rfl
      have s_1 : (w1.alloc (.cells #[.int .i64 0, .int .i64 0, .slice none 0 0] 91)).cell? ⟨w1.heap.size, 1, none⟩ = some (.int .i64 0) := var_cell _ _ _ _ _ rfl
      have s_2 : (w1.alloc (.cells #[.int .i64 0, .int .i64 0, .slice none 0 0] 91)).cell? ⟨w1.heap.size, 2, none⟩ = some (.slice none 0 0) := var_cell _ _ _ _ _ rfl
      have s_f0 : (w1.alloc (.cells #[.int .i64 0, .int .i64 0, .slice none 0 0] 91)).frozen? ⟨w1.heap.size, 0, none⟩ = false := var_frozen _ _ _ _
      have s_f1 : (w1.alloc (.cells #[.int .i64 0, .int .i64 0, .slice none 0 0] 91)).frozen? ⟨w1.heap.size, 1, none⟩ = false := var_frozen _ _ _ _
      have s_f2 : (w1.alloc (.cells #[.int .i64 0, .int .i64 0, .slice none 0 0] 91)).frozen? ⟨w1.heap.size, 2, none⟩ = false := var_frozen _ _ _ _
      generalize (w1.alloc (.cells #[.int .i64 0, .int .i64 0, .slice none 0 0] 91)) = w2 at *
      have hz2 : w1.heap.size ≤ w2.heap.size := he2.size
      have b2 : Below W.heap.size W w2 := b1.trans (he2.below b1.size (by omega))
      replace hr := (hr.below (he2.below (B := W.heap.size) (by omega) (by omega)) (Nat.le_refl _))
      replace res_f0 := (he2.frozen res_0 (by simp only; omega)).trans res_f0
      replace res_f1 := (he2.frozen res_1 (by simp only; omega)).trans res_f1
      replace res_f2 := (he2.frozen res_2 (by simp only; omega)).trans res_f2
      replace res_0 := he2.cell res_0 (by simp only; omega)
      replace res_1 := he2.cell res_1 (by simp only; omega)
      replace res_2 := he2.cell res_2 (by simp only; omega)
      replace res_l := Nat.lt_of_lt_of_le res_l hz2
      rw [hs1] at s_0 s_f0
      rw [hs1] at s_1 s_f1
      rw [hs1] at s_2 s_f2
      have s_l : W.heap.size + 1 < w2.heap.size := (by omega)
      refine (spec_GetNum_ok _ 128 _ l 1 3 (by omega) (by omega) (by omega) (by omega) w2 (hr.more (by omega))).mono ?_
      rintro e w3 ⟨rfl, hb⟩
      have he3 : Eff 0 0 w2 w3 := Eff.of hb
      have hz3 : w2.heap.size ≤ w3.heap.size := he3.size
      have b3 : Below W.heap.size W w3 := b2.trans (he3.below b2.size (by omega))
      replace hr := (hr.below (he3.below (B := W.heap.size) (by omega) (by omega)) (Nat.le_refl _))
      replace res_f0 := (he3.frozen res_0 (by simp only; omega)).trans res_f0
      replace res_f1 := (he3.frozen res_1 (by simp only; omega)).trans res_f1
      replace res_f2 := (he3.frozen res_2 (by simp only; omega)).trans res_f2
      replace s_f0 := (he3.frozen s_0 (by simp only; omega)).trans s_f0
      replace s_f1 := (he3.frozen s_1 (by simp only; omega)).trans s_f1
      replace s_f2 := (he3.frozen s_2 (by simp only; omega)).trans s_f2
      replace res_0 := he3.cell res_0 (by simp only; omega)
      replace res_1 := he3.cell res_1 (by simp only; omega)
      replace res_2 := he3.cell res_2 (by simp only; omega)
      replace s_0 := he3.cell s_0 (by simp only; omega)
      replace s_1 := he3.cell s_1 (by simp only; omega)
      replace s_2 := he3.cell s_2 (by simp only; omega)
      replace res_l := Nat.lt_of_lt_of_le res_l hz3
      replace s_l := Nat.lt_of_lt_of_le s_l hz3
      clear hb
      rw [show beNat ((l.drop 1).take 3) = Q from HQ.out]
      go_wp2_with fail
      have he4 : Eff (W.heap.size + 1) (W.heap.size + 1 + 1) w3 (w3.setCell ⟨W.heap.size + 1, 0, none⟩ (.int .i64 (Q : Int))) := eff_set _ _ _ _
      replace res_f0 := (he4.frozen res_0 (by simp only; omega)).trans res_f0
      replace res_f1 := (he4.frozen res_1 (by simp only; omega)).trans res_f1
      replace res_f2 := (he4.frozen res_2 (by simp only; omega)).trans res_f2
      replace s_f0 := set_frozen (p := ⟨W.heap.size + 1, 0, none⟩) s_f0 (.int .i64 (Q : Int))
      replace s_f1 := set_frozen (p := ⟨W.heap.size + 1, 0, none⟩) s_f1 (.int .i64 (Q : Int))
      replace s_f2 := set_frozen (p := ⟨W.heap.size + 1, 0, none⟩) s_f2 (.int .i64 (Q : Int))
      replace res_0 := he4.cell res_0 (by simp only; omega)
      replace res_1 := he4.cell res_1 (by simp only; omega)
      replace res_2 := he4.cell res_2 (by simp only; omega)
      replace s_0 := set_same s_0 (.int .i64 (Q : Int))
      replace s_1 := set_other (b' := W.heap.size + 1) (o' := 0) s_1 (.int .i64 (Q : Int)) (.inr (by omega))
      replace s_2 := set_other (b' := W.heap.size + 1) (o' := 0) s_2 (.int .i64 (Q : Int)) (.inr (by omega))
      have hz4 : w3.heap.size ≤ (w3.setCell ⟨W.heap.size + 1, 0, none⟩ (.int .i64 (Q : Int))).heap.size := he4.size
      generalize (w3.setCell ⟨W.heap.size + 1, 0, none⟩ (.int .i64 (Q : Int))) = w4 at *
      have b4 : Below W.heap.size W w4 := b3.trans (he4.below b3.size (by omega))
      replace hr := (hr.below (he4.below (B := W.heap.size) (by omega) (by omega)) (Nat.le_refl _))
      replace res_l := Nat.lt_of_lt_of_le res_l hz4
      replace s_l := Nat.lt_of_lt_of_le s_l hz4
      refine (spec_GetNum_ok _ 128 _ l 4 3 (by omega) (by omega) (by omega) (by omega) w4 (hr.more (by omega))).mono ?_
      rintro e w5 ⟨rfl, hb⟩
      have he5 : Eff 0 0 w4 w5 := Eff.of hb
      have hz5 : w4.heap.size ≤ w5.heap.size := he5.size
      have b5 : Below W.heap.size W w5 := b4.trans (he5.below b4.size (by omega))
      replace hr := (hr.below (he5.below (B := W.heap.size) (by omega) (by omega)) (Nat.le_refl _))
      replace res_f0 := (he5.frozen res_0 (by simp only; omega)).trans res_f0
      replace res_f1 := (he5.frozen res_1 (by simp only; omega)).trans res_f1
      replace res_f2 := (he5.frozen res_2 (by simp only; omega)).trans res_f2
      replace s_f0 := (he5.frozen s_0 (by simp only; omega)).trans s_f0
      replace s_f1 := (he5.frozen s_1 (by simp only; omega)).trans s_f1
      replace s_f2 := (he5.frozen s_2 (by simp only; omega)).trans s_f2
      replace res_0 := he5.cell res_0 (by simp only; omega)
      replace res_1 := he5.cell res_1 (by simp only; omega)
      replace res_2 := he5.cell res_2 (by simp only; omega)
      replace s_0 := he5.cell s_0 (by simp only; omega)
      replace s_1 := he5.cell s_1 (by simp only; omega)
      replace s_2 := he5.cell s_2 (by simp only; omega)
      replace res_l := Nat.lt_of_lt_of_le res_l hz5
      replace s_l := Nat.lt_of_lt_of_le s_l hz5
      clear hb
      rw [show beNat ((l.drop 4).take 3) = P from HP.out]
      go_wp2_with fail
      have he6 : Eff (W.heap.size + 1) (W.heap.size + 1 + 1) w5 (w5.setCell ⟨W.heap.size + 1, 1, none⟩ (.int .i64 (P : Int))) := eff_set _ _ _ _
      replace res_f0 := (he6.frozen res_0 (by simp only; omega)).trans res_f0
      replace res_f1 := (he6.frozen res_1 (by simp only; omega)).trans res_f1
      replace res_f2 := (he6.frozen res_2 (by simp only; omega)).trans res_f2
      replace s_f0 := set_frozen (p := ⟨W.heap.size + 1, 1, none⟩) s_f0 (.int .i64 (P : Int))
      replace s_f1 := set_frozen (p := ⟨W.heap.size + 1, 1, none⟩) s_f1 (.int .i64 (P : Int))
      replace s_f2 := set_frozen (p := ⟨W.heap.size + 1, 1, none⟩) s_f2 (.int .i64 (P : Int))
      replace res_0 := he6.cell res_0 (by simp only; omega)
      replace res_1 := he6.cell res_1 (by simp only; omega)
      replace res_2 := he6.cell res_2 (by simp only; omega)
      replace s_0 := set_other (b' := W.heap.size + 1) (o' := 1) s_0 (.int .i64 (P : Int)) (.inr (by omega))
      replace s_1 := set_same s_1 (.int .i64 (P : Int))
      replace s_2 := set_other (b' := W.heap.size + 1) (o' := 1) s_2 (.int .i64 (P : Int)) (.inr (by omega))
      have hz6 : w5.heap.size ≤ (w5.setCell ⟨W.heap.size + 1, 1, none⟩ (.int .i64 (P : Int))).heap.size := he6.size
      generalize (w5.setCell ⟨W.heap.size + 1, 1, none⟩ (.int .i64 (P : Int))) = w6 at *
      have b6 : Below W.heap.size W w6 := b5.trans (he6.below b5.size (by omega))
      replace hr := (hr.below (he6.below (B := W.heap.size) (by omega) (by omega)) (Nat.le_refl _))
      replace res_l := Nat.lt_of_lt_of_le res_l hz6
      replace s_l := Nat.lt_of_lt_of_le s_l hz6
      refine (spec_GetNum_ok _ 128 _ l 7 1 (by omega) (by omega) (by omega) (by omega) w6 (hr.more (by omega))).mono ?_
      rintro e w7 ⟨rfl, hb⟩
      have he7 : Eff 0 0 w6 w7 := Eff.of hb
      have hz7 : w6.heap.size ≤ w7.heap.size := he7.size
      have b7 : Below W.heap.size W w7 := b6.trans (he7.below b6.size (by omega))
      replace hr := (hr.below (he7.below (B := W.heap.size) (by omega) (by omega)) (Nat.le_refl _))
      replace res_f0 := (he7.frozen res_0 (by simp only; omega)).trans res_f0
      replace res_f1 := (he7.frozen res_1 (by simp only; omega)).trans res_f1
      replace res_f2 := (he7.frozen res_2 (by simp only; omega)).trans res_f2
      replace s_f0 := (he7.frozen s_0 (by simp only; omega)).trans s_f0
      replace s_f1 := (he7.frozen s_1 (by simp only; omega)).trans s_f1
      replace s_f2 := (he7.frozen s_2 (by simp only; omega)).trans s_f2
      replace res_0 := he7.cell res_0 (by simp only; omega)
      replace res_1 := he7.cell res_1 (by simp only; omega)
      replace res_2 := he7.cell res_2 (by simp only; omega)
      replace s_0 := he7.cell s_0 (by simp only; omega)
      replace s_1 := he7.cell s_1 (by simp only; omega)
      replace s_2 := he7.cell s_2 (by simp only; omega)
      replace res_l := Nat.lt_of_lt_of_le res_l hz7
      replace s_l := Nat.lt_of_lt_of_le s_l hz7
      clear hb
      rw [HM1.out]
      go_wp2_with (at_builtin; refine wpList_app _ rfl _ _ 27 rfl 5 i0 (.int .u8 0) 1 1 Try.underlying27 hi0 hj0 hj1 hj2 rfl (by omega) rfl (new_empty w7 5 1) (c - 8) rfl (by rw [Nat.add_sub_cancel_left]; exact (hr.sub (lo := 8) (m := m) (by omega)).alloc (by omega) _) (byteCells_one' _) (by unfold maxLen; omega) (by omega) (by simp) ?_; intro Ay cy w8 y hE _; have he8 : Eff 0 0 w7 w8 := Eff.join (Eff.alloc _ _) hE (Nat.le_refl _); have hz8 : w7.heap.size ≤ w8.heap.size := he8.size; clear hE; replace y : OwnB w8 (w7.heap.size) (w8.heap.size) Ay m cy (((l.drop 8).take m)) := (by unfold OwnB; simpa only [Nat.zero_add, Nat.add_sub_cancel_left, List.nil_append] using y); simp only [Nat.zero_add, Nat.add_sub_cancel_left]; have b8 : Below W.heap.size W w8 := b7.trans (he8.below b7.size (by omega)); replace hr := (hr.below (he8.below (B := W.heap.size) (by omega) (by omega)) (Nat.le_refl _)); replace res_f0 := (he8.frozen res_0 (by simp only; omega)).trans res_f0; replace res_f1 := (he8.frozen res_1 (by simp only; omega)).trans res_f1; replace res_f2 := (he8.frozen res_2 (by simp only; omega)).trans res_f2; replace s_f0 := (he8.frozen s_0 (by simp only; omega)).trans s_f0; replace s_f1 := (he8.frozen s_1 (by simp only; omega)).trans s_f1; replace s_f2 := (he8.frozen s_2 (by simp only; omega)).trans s_f2; replace res_0 := he8.cell res_0 (by simp only; omega); replace res_1 := he8.cell res_1 (by simp only; omega); replace res_2 := he8.cell res_2 (by simp only; omega); replace s_0 := he8.cell s_0 (by simp only; omega); replace s_1 := he8.cell s_1 (by simp only; omega); replace s_2 := he8.cell s_2 (by simp only; omega); replace res_l := Nat.lt_of_lt_of_le res_l hz8; replace s_l := Nat.lt_of_lt_of_le s_l hz8)
      have he9 : Eff (W.heap.size + 1) (W.heap.size + 1 + 1) w8 (w8.setCell ⟨W.heap.size + 1, 2, none⟩ (.slice Ay m cy)) := eff_set _ _ _ _
      replace res_f0 := (he9.frozen res_0 (by simp only; omega)).trans res_f0
      replace res_f1 := (he9.frozen res_1 (by simp only; omega)).trans res_f1
      replace res_f2 := (he9.frozen res_2 (by simp only; omega)).trans res_f2
      replace s_f0 := set_frozen (p := ⟨W.heap.size + 1, 2, none⟩) s_f0 (.slice Ay m cy)
      replace s_f1 := set_frozen (p := ⟨W.heap.size + 1, 2, none⟩) s_f1 (.slice Ay m cy)
      replace s_f2 := set_frozen (p := ⟨W.heap.size + 1, 2, none⟩) s_f2 (.slice Ay m cy)
      replace res_0 := he9.cell res_0 (by simp only; omega)
      replace res_1 := he9.cell res_1 (by simp only; omega)
      replace res_2 := he9.cell res_2 (by simp only; omega)
      replace s_0 := set_other (b' := W.heap.size + 1) (o' := 2) s_0 (.slice Ay m cy) (.inr (by omega))
      replace s_1 := set_other (b' := W.heap.size + 1) (o' := 2) s_1 (.slice Ay m cy) (.inr (by omega))
      replace s_2 := set_same s_2 (.slice Ay m cy)
      have hz9 : w8.heap.size ≤ (w8.setCell ⟨W.heap.size + 1, 2, none⟩ (.slice Ay m cy)).heap.size := he9.size
      generalize (w8.setCell ⟨W.heap.size + 1, 2, none⟩ (.slice Ay m cy)) = w9 at *
      have b9 : Below W.heap.size W w9 := b8.trans (he9.below b8.size (by omega))
      replace hr := (hr.below (he9.below (B := W.heap.size) (by omega) (by omega)) (Nat.le_refl _))
      replace y := y.keep he9 (by omega)
      replace res_l := Nat.lt_of_lt_of_le res_l hz9
      replace s_l := Nat.lt_of_lt_of_le s_l hz9
      refine (spec_SectorBytes (Q : Int) (P : Int) _ m _ ((l.drop 8).take m) (by omega) w9 (y.rd (by omega))).mono ?_
      rintro e w10 hpost
      rw [hok] at hpost
      obtain ⟨Ar, cr, rfl, r, hb⟩ := hpost.yes (N := 128)
      clear hpost
      have he10 : Eff 0 0 w9 w10 := Eff.of hb
      have hz10 : w9.heap.size ≤ w10.heap.size := he10.size
      have b10 : Below W.heap.size W w10 := b9.trans (he10.below b9.size (by omega))
      replace hr := (hr.below (he10.below (B := W.heap.size) (by omega) (by omega)) (Nat.le_refl _))
      replace y := y.keep he10 (by omega)
      replace res_f0 := (he10.frozen res_0 (by simp only; omega)).trans res_f0
      replace res_f1 := (he10.frozen res_1 (by simp only; omega)).trans res_f1
      replace res_f2 := (he10.frozen res_2 (by simp only; omega)).trans res_f2
      replace s_f0 := (he10.frozen s_0 (by simp only; omega)).trans s_f0
      replace s_f1 := (he10.frozen s_1 (by simp only; omega)).trans s_f1
      replace s_f2 := (he10.frozen s_2 (by simp only; omega)).trans s_f2
      replace res_0 := he10.cell res_0 (by simp only; omega)
      replace res_1 := he10.cell res_1 (by simp only; omega)
      replace res_2 := he10.cell res_2 (by simp only; omega)
      replace s_0 := he10.cell s_0 (by simp only; omega)
      replace s_1 := he10.cell s_1 (by simp only; omega)
      replace s_2 := he10.cell s_2 (by simp only; omega)
      replace res_l := Nat.lt_of_lt_of_le res_l hz10
      replace s_l := Nat.lt_of_lt_of_le s_l hz10
      clear hb
      have r1 : OwnB w10 _ _ Ar 128 cr (secBytes Q P m ((l.drop 8).take m)) := r
      have hc1 := (OwnB.rd r1 (B := w10.heap.size) (by omega)).str 27 5 cr Try.underlying27 Try.underlying5 9 Try.underlying9
      have hc2 := hr.str 27 5 c Try.underlying27 Try.underlying5 9 Try.underlying9
      have HG := Lib.hid (good_yes (l := l) HL.out (by rw [HM.out]; omega) (by rw [HQ.out, HP.out, HM.out]; exact hok) (by unfold rdB; rw [HQ.out, HP.out, HM.out]; exact heq))
      rw [heq] at hc1
      obtain ⟨s2, hs2x⟩ : ∃ s, bstr l = s := ⟨_, rfl⟩
      rw [hs2x] at hc1 hc2
      clear hs2x
      go_wp2
      refine bodyPost_ret (v := .tuple #[.agg #[.int .i64 (Q : Int), .int .i64 (P : Int), .slice Ay m cy], .bool true]) (by simp [results, Try.results68, go_sem, *]) rfl ?_
      refine SecR.yes HG.out HQ.out HP.out HM.out (by unfold rdB; rw [HM.out]) (y.made (lo' := W.heap.size) (hi' := W.heap.size + 1) ?_ ?_ ?_) ?_
      · repeat' (first | exact Eff.refl _ _ _ | (refine Eff.setCell ?_ ?_ ?_ _) | omega | (simp; omega) | (simp; done))
      · omega
      · omega
      · repeat' (first | exact Below.refl _ _ | (refine Below.alloc ?_ ?_ _) | (refine Below.drew ?_) | (refine Below.setCell ?_ ?_ _) | (refine Below.trans ?_ (Below.mono (by assumption) ?_)) | omega | (simp; omega) | (simp; done) | exact Below.size (by assumption) | (refine Nat.le_trans ?_ (Below.size (by assumption))))
    · skip
      obtain ⟨i0, hi0, hj0, hj1, hj2⟩ := info_parts info_u8
      go_enter Try.func68, Try.ntmps68
      go_wp2_with fail
      have he1 : Eff 0 0 W (W.alloc (.cells #[.int .i64 0, .int .i64 0, .slice none 0 0] 91)) := Eff.alloc _ _
      have hs1 : (W.alloc (.cells #[.int .i64 0, .int .i64 0, .slice none 0 0] 91)).heap.size = W.heap.size + 1 := (by simp)
      have res_0 : (W.alloc (.cells #[.int .i64 0, .int .i64 0, .slice none 0 0] 91)).cell? ⟨W.heap.size, 0, none⟩ = some (.int .i64 0) := var_cell _ _ _ _ _ rfl
      have res_1 : (W.alloc (.cells #[.int .i64 0, .int .i64 0, .slice none 0 0] 91)).cell? ⟨W.heap.size, 1, none⟩ = some (.int .i64 0) := var_cell _ _ _ _ _ rfl
      have res_2 : (W.alloc (.cells #[.int .i64 0, .int .i64 0, .slice none 0 0] 91)).cell? ⟨W.heap.size, 2, none⟩ = some (.slice none 0 0) := var_cell _ _ _ _ _ rfl
      have res_f0 : (W.alloc (.cells #[.int .i64 0, .int .i64 0, .slice none 0 0] 91)).frozen? ⟨W.heap.size, 0, none⟩ = false := var_frozen _ _ _ _
      have res_f1 : (W.alloc (.cells #[.int .i64 0, .int .i64 0, .slice none 0 0] 91)).frozen? ⟨W.heap.size, 1, none⟩ = false := var_frozen _ _ _ _
      have res_f2 : (W.alloc (.cells #[.int .i64 0, .int .i64 0, .slice none 0 0] 91)).frozen? ⟨W.heap.size, 2, none⟩ = false := var_frozen _ _ _ _
      generalize (W.alloc (.cells #[.int .i64 0, .int .i64 0, .slice none 0 0] 91)) = w1 at *
      have hz1 : W.heap.size ≤ w1.heap.size := he1.size
      have b1 : Below W.heap.size W w1 := he1.below (Nat.le_refl _) (by omega)
      replace hr := (hr.below (he1.below (B := W.heap.size) (by omega) (by omega)) (Nat.le_refl _))
      have res_l : W.heap.size < w1.heap.size := (by omega)
      have he2 : Eff 0 0 w1 (w1.alloc (.cells #[.int .i64 0, .int .i64 0, .slice none 0 0] 91)) := Eff.alloc _ _
      have hs2 : (w1.alloc (.cells #[.int .i64 0, .int .i64 0, .slice none 0 0] 91)).heap.size = w1.heap.size + 1 := (by simp)
      have s_0 : (w1.alloc (.cells #[.int .i64 0, .int .i64 0, .slice none 0 0] 91)).cell? ⟨w1.heap.size, 0, none⟩ = some (.int .i64 0) := var_cell _ _ _ _ _ rfl
      have s_1 : (w1.alloc (.cells #[.int .i64 0, .int .i64 0, .slice none 0 0] 91)).cell? ⟨w1.heap.size, 1, none⟩ = some (.int .i64 0) := var_cell _ _ _ _ _ rfl
      have s_2 : (w1.alloc (.cells #[.int .i64 0, .int .i64 0, .slice none 0 0] 91)).cell? ⟨w1.heap.size, 2, none⟩ = some (.slice none 0 0) := var_cell _ _ _ _ _ rfl
      have s_f0 : (w1.alloc (.cells #[.int .i64 0, .int .i64 0, .slice none 0 0] 91)).frozen? ⟨w1.heap.size, 0, none⟩ = false := var_frozen _ _ _ _
      have s_f1 : (w1.alloc (.cells #[.int .i64 0, .int .i64 0, .slice none 0 0] 91)).frozen? ⟨w1.heap.size, 1, none⟩ = false := var_frozen _ _ _ _
      have s_f2 : (w1.alloc (.cells #[.int .i64 0, .int .i64 0, .slice none 0 0] 91)).frozen? ⟨w1.heap.size, 2, none⟩ = false := var_frozen _ _ _ _
      generalize (w1.alloc (.cells #[.int .i64 0, .int .i64 0, .slice none 0 0] 91)) = w2 at *
      have hz2 : w1.heap.size ≤ w2.heap.size := he2.size
      have b2 : Below W.heap.size W w2 := b1.trans (he2.below b1.size (by omega))
      replace hr := (hr.below (he2.below (B := W.heap.size) (by omega) (by omega)) (Nat.le_refl _))
      replace res_f0 := (he2.frozen res_0 (by simp only; omega)).trans res_f0
      replace res_f1 := (he2.frozen res_1 (by simp only; omega)).trans res_f1
      replace res_f2 := (he2.frozen res_2 (by simp only; omega)).trans res_f2
      replace res_0 := he2.cell res_0 (by simp only; omega)
      replace res_1 := he2.cell res_1 (by simp only; omega)
      replace res_2 := he2.cell res_2 (by simp only; omega)
      replace res_l := Nat.lt_of_lt_of_le res_l hz2
      rw [hs1] at s_0 s_f0
      rw [hs1] at s_1 s_f1
      rw [hs1] at s_2 s_f2
      have s_l : W.heap.size + 1 < w2.heap.size := (by omega)
      refine (spec_GetNum_ok _ 128 _ l 1 3 (by omega) (by omega) (by omega) (by omega) w2 (hr.more (by omega))).mono ?_
      rintro e w3 ⟨rfl, hb⟩
      have he3 : Eff 0 0 w2 w3 := Eff.of hb
      have hz3 : w2.heap.size ≤ w3.heap.size := he3.size
      have b3 : Below W.heap.size W w3 := b2.trans (he3.below b2.size (by omega))
      replace hr := (hr.below (he3.below (B := W.heap.size) (by omega) (by omega)) (Nat.le_refl _))
      replace res_f0 := (he3.frozen res_0 (by simp only; omega)).trans res_f0
      replace res_f1 := (he3.frozen res_1 (by simp only; omega)).trans res_f1
      replace res_f2 := (he3.frozen res_2 (by simp only; omega)).trans res_f2
      replace s_f0 := (he3.frozen s_0 (by simp only; omega)).trans s_f0
      replace s_f1 := (he3.frozen s_1 (by simp only; omega)).trans s_f1
      replace s_f2 := (he3.frozen s_2 (by simp only; omega)).trans s_f2
      replace res_0 := he3.cell res_0 (by simp only; omega)
      replace res_1 := he3.cell res_1 (by simp only; omega)
      replace res_2 := he3.cell res_2 (by simp only; omega)
      replace s_0 := he3.cell s_0 (by simp only; omega)
      replace s_1 := he3.cell s_1 (by simp only; omega)
      replace s_2 := he3.cell s_2 (by simp only; omega)
      replace res_l := Nat.lt_of_lt_of_le res_l hz3
      replace s_l := Nat.lt_of_lt_of_le s_l hz3
      clear hb
      rw [show beNat ((l.drop 1).take 3) = Q from HQ.out]
      go_wp2_with fail
      have he4 : Eff (W.heap.size + 1) (W.heap.size + 1 + 1) w3 (w3.setCell ⟨W.heap.size + 1, 0, none⟩ (.int .i64 (Q : Int))) := eff_set _ _ _ _
      replace res_f0 := (he4.frozen res_0 (by simp only; omega)).trans res_f0
      replace res_f1 := (he4.frozen res_1 (by simp only; omega)).trans res_f1
      replace res_f2 := (he4.frozen res_2 (by simp only; omega)).trans res_f2
      replace s_f0 := set_frozen (p := ⟨W.heap.size + 1, 0, none⟩) s_f0 (.int .i64 (Q : Int))
      replace s_f1 := set_frozen (p := ⟨W.heap.size + 1, 0, none⟩) s_f1 (.int .i64 (Q : Int))
      replace s_f2 := set_frozen (p := ⟨W.heap.size + 1, 0, none⟩) s_f2 (.int .i64 (Q : Int))
      replace res_0 := he4.cell res_0 (by simp only; omega)
      replace res_1 := he4.cell res_1 (by simp only; omega)
      replace res_2 := he4.cell res_2 (by simp only; omega)
      replace s_0 := set_same s_0 (.int .i64 (Q : Int))
      replace s_1 := set_other (b' := W.heap.size + 1) (o' := 0) s_1 (.int .i64 (Q : Int)) (.inr (by omega))
      replace s_2 := set_other (b' := W.heap.size + 1) (o' := 0) s_2 (.int .i64 (Q : Int)) (.inr (by omega))
      have hz4 : w3.heap.size ≤ (w3.setCell ⟨W.heap.size + 1, 0, none⟩ (.int .i64 (Q : Int))).heap.size := he4.size
      generalize (w3.setCell ⟨W.heap.size + 1, 0, none⟩ (.int .i64 (Q : Int))) = w4 at *
      have b4 : Below W.heap.size W w4 := b3.trans (he4.below b3.size (by omega))
      replace hr := (hr.below (he4.below (B := W.heap.size) (by omega) (by omega)) (Nat.le_refl _))
      replace res_l := Nat.lt_of_lt_of_le res_l hz4
      replace s_l := Nat.lt_of_lt_of_le s_l hz4
      refine (spec_GetNum_ok _ 128 _ l 4 3 (by omega) (by omega) (by omega) (by omega) w4 (hr.more (by omega))).mono ?_
      rintro e w5 ⟨rfl, hb⟩
      have he5 : Eff 0 0 w4 w5 := Eff.of hb
      have hz5 : w4.heap.size ≤ w5.heap.size := he5.size
      have b5 : Below W.heap.size W w5 := b4.trans (he5.below b4.size (by omega))
      replace hr := (hr.below (he5.below (B := W.heap.size) (by omega) (by omega)) (Nat.le_refl _))
      replace res_f0 := (he5.frozen res_0 (by simp only; omega)).trans res_f0
      replace res_f1 := (he5.frozen res_1 (by simp only; omega)).trans res_f1
      replace res_f2 := (he5.frozen res_2 (by simp only; omega)).trans res_f2
      replace s_f0 := (he5.frozen s_0 (by simp only; omega)).trans s_f0
      replace s_f1 := (he5.frozen s_1 (by simp only; omega)).trans s_f1
      replace s_f2 := (he5.frozen s_2 (by simp only; omega)).trans s_f2
      replace res_0 := he5.cell res_0 (by simp only; omega)
      replace res_1 := he5.cell res_1 (by simp only; omega)
      replace res_2 := he5.cell res_2 (by simp only; omega)
      replace s_0 := he5.cell s_0 (by simp only; omega)
      replace s_1 := he5.cell s_1 (by simp only; omega)
      replace s_2 := he5.cell s_2 (by simp only; omega)
      replace res_l := Nat.lt_of_lt_of_le res_l hz5
      replace s_l := Nat.lt_of_lt_of_le s_l hz5
      clear hb
      rw [show beNat ((l.drop 4).take 3) = P from HP.out]
      go_wp2_with fail
      have he6 : Eff (W.heap.size + 1) (W.heap.size + 1 + 1) w5 (w5.setCell ⟨W.heap.size + 1, 1, none⟩ (.int .i64 (P : Int))) := eff_set _ _ _ _
      replace res_f0 := (he6.frozen res_0 (by simp only; omega)).trans res_f0
      replace res_f1 := (he6.frozen res_1 (by simp only; omega)).trans res_f1
      replace res_f2 := (he6.frozen res_2 (by simp only; omega)).trans res_f2
      replace s_f0 := set_frozen (p := ⟨W.heap.size + 1, 1, none⟩) s_f0 (.int .i64 (P : Int))
      replace s_f1 := set_frozen (p := ⟨W.heap.size + 1, 1, none⟩) s_f1 (.int .i64 (P : Int))
      replace s_f2 := set_frozen (p := ⟨W.heap.size + 1, 1, none⟩) s_f2 (.int .i64 (P : Int))
      replace res_0 := he6.cell res_0 (by simp only; omega)
      replace res_1 := he6.cell res_1 (by simp only; omega)
      replace res_2 := he6.cell res_2 (by simp only; omega)
      replace s_0 := set_other (b' := W.heap.size + 1) (o' := 1) s_0 (.int .i64 (P : Int)) (.inr (by omega))
      replace s_1 := set_same s_1 (.int .i64 (P : Int))
      replace s_2 := set_other (b' := W.heap.size + 1) (o' := 1) s_2 (.int .i64 (P : Int)) (.inr (by omega))
      have hz6 : w5.heap.size ≤ (w5.setCell ⟨W.heap.size + 1, 1, none⟩ (.int .i64 (P : Int))).heap.size := he6.size
      generalize (w5.setCell ⟨W.heap.size + 1, 1, none⟩ (.int .i64 (P : Int))) = w6 at *
      have b6 : Below W.heap.size W w6 := b5.trans (he6.below b5.size (by omega))
      replace hr := (hr.below (he6.below (B := W.heap.size) (by omega) (by omega)) (Nat.le_refl _))
      replace res_l := Nat.lt_of_lt_of_le res_l hz6
      replace s_l := Nat.lt_of_lt_of_le s_l hz6
      refine (spec_GetNum_ok _ 128 _ l 7 1 (by omega) (by omega) (by omega) (by omega) w6 (hr.more (by omega))).mono ?_
      rintro e w7 ⟨rfl, hb⟩
      have he7 : Eff 0 0 w6 w7 := Eff.of hb
      have hz7 : w6.heap.size ≤ w7.heap.size := he7.size
      have b7 : Below W.heap.size W w7 := b6.trans (he7.below b6.size (by omega))
      replace hr := (hr.below (he7.below (B := W.heap.size) (by omega) (by omega)) (Nat.le_refl _))
      replace res_f0 := (he7.frozen res_0 (by simp only; omega)).trans res_f0
      replace res_f1 := (he7.frozen res_1 (by simp only; omega)).trans res_f1
      replace res_f2 := (he7.frozen res_2 (by simp only; omega)).trans res_f2
      replace s_f0 := (he7.frozen s_0 (by simp only; omega)).trans s_f0
      replace s_f1 := (he7.frozen s_1 (by simp only; omega)).trans s_f1
      replace s_f2 := (he7.frozen s_2 (by simp only; omega)).trans s_f2
      replace res_0 := he7.cell res_0 (by simp only; omega)
      replace res_1 := he7.cell res_1 (by simp only; omega)
      replace res_2 := he7.cell res_2 (by simp only; omega)
      replace s_0 := he7.cell s_0 (by simp only; omega)
      replace s_1 := he7.cell s_1 (by simp only; omega)
      replace s_2 := he7.cell s_2 (by simp only; omega)
      replace res_l := Nat.lt_of_lt_of_le res_l hz7
      replace s_l := Nat.lt_of_lt_of_le s_l hz7
      clear hb
      rw [HM1.out]
      go_wp2_with (at_builtin; refine wpList_app _ rfl _ _ 27 rfl 5 i0 (.int .u8 0) 1 1 Try.underlying27 hi0 hj0 hj1 hj2 rfl (by omega) rfl (new_empty w7 5 1) (c - 8) rfl (by rw [Nat.add_sub_cancel_left]; exact (hr.sub (lo := 8) (m := m) (by omega)).alloc (by omega) _) (byteCells_one' _) (by unfold maxLen; omega) (by omega) (by simp) ?_; intro Ay cy w8 y hE _; have he8 : Eff 0 0 w7 w8 := Eff.join (Eff.alloc _ _) hE (Nat.le_refl _); have hz8 : w7.heap.size ≤ w8.heap.size := he8.size; clear hE; replace y : OwnB w8 (w7.heap.size) (w8.heap.size) Ay m cy (((l.drop 8).take m)) := (by unfold OwnB; simpa only [Nat.zero_add, Nat.add_sub_cancel_left, List.nil_append] using y); simp only [Nat.zero_add, Nat.add_sub_cancel_left]; have b8 : Below W.heap.size W w8 := b7.trans (he8.below b7.size (by omega)); replace hr := (hr.below (he8.below (B := W.heap.size) (by omega) (by omega)) (Nat.le_refl _)); replace res_f0 := (he8.frozen res_0 (by simp only; omega)).trans res_f0; replace res_f1 := (he8.frozen res_1 (by simp only; omega)).trans res_f1; replace res_f2 := (he8.frozen res_2 (by simp only; omega)).trans res_f2; replace s_f0 := (he8.frozen s_0 (by simp only; omega)).trans s_f0; replace s_f1 := (he8.frozen s_1 (by simp only; omega)).trans s_f1; replace s_f2 := (he8.frozen s_2 (by simp only; omega)).trans s_f2; replace res_0 := he8.cell res_0 (by simp only; omega); replace res_1 := he8.cell res_1 (by simp only; omega); replace res_2 := he8.cell res_2 (by simp only; omega); replace s_0 := he8.cell s_0 (by simp only; omega); replace s_1 := he8.cell s_1 (by simp only; omega); replace s_2 := he8.cell s_2 (by simp only; omega); replace res_l := Nat.lt_of_lt_of_le res_l hz8; replace s_l := Nat.lt_of_lt_of_le s_l hz8)
      have he9 : Eff (W.heap.size + 1) (W.heap.size + 1 + 1) w8 (w8.setCell ⟨W.heap.size + 1, 2, none⟩ (.slice Ay m cy)) := eff_set _ _ _ _
      replace res_f0 := (he9.frozen res_0 (by simp only; omega)).trans res_f0
      replace res_f1 := (he9.frozen res_1 (by simp only; omega)).trans res_f1
      replace res_f2 := (he9.frozen res_2 (by simp only; omega)).trans res_f2
      replace s_f0 := set_frozen (p := ⟨W.heap.size + 1, 2, none⟩) s_f0 (.slice Ay m cy)
      replace s_f1 := set_frozen (p := ⟨W.heap.size + 1, 2, none⟩) s_f1 (.slice Ay m cy)
      replace s_f2 := set_frozen (p := ⟨W.heap.size + 1, 2, none⟩) s_f2 (.slice Ay m cy)
      replace res_0 := he9.cell res_0 (by simp only; omega)
      replace res_1 := he9.cell res_1 (by simp only; omega)
      replace res_2 := he9.cell res_2 (by simp only; omega)
      replace s_0 := set_other (b' := W.heap.size + 1) (o' := 2) s_0 (.slice Ay m cy) (.inr (by omega))
      replace s_1 := set_other (b' := W.heap.size + 1) (o' := 2) s_1 (.slice Ay m cy) (.inr (by omega))
      replace s_2 := set_same s_2 (.slice Ay m cy)
      have hz9 : w8.heap.size ≤ (w8.setCell ⟨W.heap.size + 1, 2, none⟩ (.slice Ay m cy)).heap.size := he9.size
      generalize (w8.setCell ⟨W.heap.size + 1, 2, none⟩ (.slice Ay m cy)) = w9 at *
      have b9 : Below W.heap.size W w9 := b8.trans (he9.below b8.size (by omega))
      replace hr := (hr.below (he9.below (B := W.heap.size) (by omega) (by omega)) (Nat.le_refl _))
      replace y := y.keep he9 (by omega)
      replace res_l := Nat.lt_of_lt_of_le res_l hz9
      replace s_l := Nat.lt_of_lt_of_le s_l hz9
      refine (spec_SectorBytes (Q : Int) (P : Int) _ m _ ((l.drop 8).take m) (by omega) w9 (y.rd (by omega))).mono ?_
      rintro e w10 hpost
      rw [hok] at hpost
      obtain ⟨Ar, cr, rfl, r, hb⟩ := hpost.yes (N := 128)
      clear hpost
      have he10 : Eff 0 0 w9 w10 := Eff.of hb
      have hz10 : w9.heap.size ≤ w10.heap.size := he10.size
      have b10 : Below W.heap.size W w10 := b9.trans (he10.below b9.size (by omega))
      replace hr := (hr.below (he10.below (B := W.heap.size) (by omega) (by omega)) (Nat.le_refl _))
      replace y := y.keep he10 (by omega)
      replace res_f0 := (he10.frozen res_0 (by simp only; omega)).trans res_f0
      replace res_f1 := (he10.frozen res_1 (by simp only; omega)).trans res_f1
      replace res_f2 := (he10.frozen res_2 (by simp only; omega)).trans res_f2
      replace s_f0 := (he10.frozen s_0 (by simp only; omega)).trans s_f0
      replace s_f1 := (he10.frozen s_1 (by simp only; omega)).trans s_f1
      replace s_f2 := (he10.frozen s_2 (by simp only; omega)).trans s_f2
      replace res_0 := he10.cell res_0 (by simp only; omega)
      replace res_1 := he10.cell res_1 (by simp only; omega)
      replace res_2 := he10.cell res_2 (by simp only; omega)
      replace s_0 := he10.cell s_0 (by simp only; omega)
      replace s_1 := he10.cell s_1 (by simp only; omega)
      replace s_2 := he10.cell s_2 (by simp only; omega)
      replace res_l := Nat.lt_of_lt_of_le res_l hz10
      replace s_l := Nat.lt_of_lt_of_le s_l hz10
      clear hb
      have r1 : OwnB w10 _ _ Ar 128 cr (secBytes Q P m ((l.drop 8).take m)) := r
      have hc1 := (OwnB.rd r1 (B := w10.heap.size) (by omega)).str 27 5 cr Try.underlying27 Try.underlying5 9 Try.underlying9
      have hc2 := hr.str 27 5 c Try.underlying27 Try.underlying5 9 Try.underlying9
      have HG := Lib.hid (good_eq (l := l) (by unfold rdB; rw [HQ.out, HP.out, HM.out]; exact heq))
      have hne := (beq_toListBytes _ _).symm.trans (bstr_other heq)
      obtain ⟨s1, hs1x⟩ : ∃ s, bstr (secBytes Q P m ((l.drop 8).take m)) = s := ⟨_, rfl⟩
      obtain ⟨s2, hs2x⟩ : ∃ s, bstr l = s := ⟨_, rfl⟩
      rw [hs1x] at hc1 hne
      rw [hs2x] at hc2 hne
      clear hs1x hs2x
      go_wp2
      refine bodyPost_ret (v := .tuple #[.agg #[.int .i64 0, .int .i64 0, .slice none 0 0], .bool false]) (by simp [results, Try.results68, go_sem, *]) rfl ?_
      refine SecR.no HG.out ?_
      repeat' (first | exact Below.refl _ _ | (refine Below.alloc ?_ ?_ _) | (refine Below.drew ?_) | (refine Below.setCell ?_ ?_ _) | (refine Below.trans ?_ (Below.mono (by assumption) ?_)) | omega | (simp; omega) | (simp; done) | exact Below.size (by assumption) | (refine Nat.le_trans ?_ (Below.size (by assumption))))
end Go.Proofs.Ytblenfhacaecmaa
