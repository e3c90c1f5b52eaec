/- The walk of FnSector. -/
import Derived.Test.YtdjjmagocakpnaaDraw5
import Derived.Test.YtdjjmagocakpnaaSecM
import Derived.Test.YtdjjmagocakpnaaSecR3
import Derived.Test.YtdjjmagocakpnaaSecRL
namespace Go.Proofs.Ytdjjmagocakpnaa
open Go.RowKit
set_option maxHeartbeats 4000000 in
set_option maxRecDepth 100000 in
theorem walk_FnSector (A : Option Addr) (n c : Nat) (l : List UInt8) (W : World) (_hnc : n ≤ c) (_hm : c ≤ maxLen) (hr : Rd W W.heap.size 1 A n (Lib.byteCells l)) :
    Calls Try.prog 10 #[.slice A n c] W fun e w' => e = .returned (.bool true) ∧ Below W.heap.size W w' := by
  by_cases hn1 : 1048576 < n
  · unfold maxLen at _hm
    go_enter Try.func10, Try.ntmps10
    go_wp2
    go_ret
    exact ⟨rfl, Below.refl _ _⟩
  · have hn : n ≤ 1048576 := by omega
    clear hn1
    go_enter Try.func10, Try.ntmps10
    go_wp2_with fail
    refine (DrawSectorBytes_any W A n c l (hr.more (by omega)) hn).mono ?_
    rintro e w1 hpost
    obtain ⟨q, o, Ay, ny, cy, ly, rfl, ⟨⟨hq0, hq1⟩, ⟨ho0, ho1⟩, hny⟩, y, hb⟩ := hpost
    have he1 : Eff 0 0 W w1 := Eff.of hb
    have hz1 : W.heap.size ≤ w1.heap.size := he1.size
    have b1 : Below W.heap.size W w1 := he1.below (Nat.le_refl _) (by omega)
    replace hr := (hr.below (he1.below (B := W.heap.size) (by omega) (by omega)) (Nat.le_refl _))
    clear hb
    go_wp2_with fail
    have he2 : Eff 0 0 w1 (w1.alloc (.cells #[.int .i64 q, .int .i64 o, .slice Ay ny cy] 32)) := Eff.alloc _ _
    have hs2 : (w1.alloc (.cells #[.int .i64 q, .int .i64 o, .slice Ay ny cy] 32)).heap.size = w1.heap.size + 1 := (by simp)
    have S_0 : (w1.alloc (.cells #[.int .i64 q, .int .i64 o, .slice Ay ny cy] 32)).cell? ⟨w1.heap.size, 0, none⟩ = some (.int .i64 q) := var_cell _ _ _ _ _ rfl
    have S_1 : (w1.alloc (.cells #[.int .i64 q, .int .i64 o, .slice Ay ny cy] 32)).cell? ⟨w1.heap.size, 1, none⟩ = some (.int .i64 o) := var_cell _ _ _ _ _ rfl
    have S_2 : (w1.alloc (.cells #[.int .i64 q, .int .i64 o, .slice Ay ny cy] 32)).cell? ⟨w1.heap.size, 2, none⟩ = some (.slice Ay ny cy) := var_cell _ _ _ _ _ rfl
    generalize (w1.alloc (.cells #[.int .i64 q, .int .i64 o, .slice Ay ny cy] 32)) = w2 at *
    have hz2 : w1.heap.size ≤ w2.heap.size := he2.size
    have b2 : Below W.heap.size W w2 := b1.trans (he2.below b1.size (by omega))
    replace hr := (hr.below (he2.below (B := W.heap.size) (by omega) (by omega)) (Nat.le_refl _))
    replace y := y.keep he2 (by omega)
    have S_l : w1.heap.size < w2.heap.size := (by omega)
    rcases hok : secOk q o ny with _ | _
    · skip
      refine (impl_SectorBytes q o _ ny _ ly (by omega) w2 (y.rd (by omega))).mono ?_
      rintro e w3 hpost
      rw [hok] at hpost
      obtain ⟨rfl, hb⟩ := hpost.not
      clear hpost
      have he3 : Eff 0 0 w2 w3 := Eff.of hb
      have hz3 : w2.heap.size ≤ w3.heap.size := he3.size
      have b3 : Below W.heap.size W w3 := b2.trans (he3.below b2.size (by omega))
      replace hr := (hr.below (he3.below (B := W.heap.size) (by omega) (by omega)) (Nat.le_refl _))
      replace y := y.keep he3 (by omega)
      replace S_0 := he3.cell S_0 (by simp only; omega)
      replace S_1 := he3.cell S_1 (by simp only; omega)
      replace S_2 := he3.cell S_2 (by simp only; omega)
      replace S_l := Nat.lt_of_lt_of_le S_l hz3
      clear hb
      go_wp2_with fail
      refine (spec_SectorOk q o _ ny _ (by omega) w3).mono ?_
      rintro e w4 ⟨rfl, hb⟩
      have he4 : Eff 0 0 w3 w4 := Eff.of hb
      have hz4 : w3.heap.size ≤ w4.heap.size := he4.size
      have b4 : Below W.heap.size W w4 := b3.trans (he4.below b3.size (by omega))
      replace hr := (hr.below (he4.below (B := W.heap.size) (by omega) (by omega)) (Nat.le_refl _))
      replace y := y.keep he4 (by omega)
      replace S_0 := he4.cell S_0 (by simp only; omega)
      replace S_1 := he4.cell S_1 (by simp only; omega)
      replace S_2 := he4.cell S_2 (by simp only; omega)
      replace S_l := Nat.lt_of_lt_of_le S_l hz4
      clear hb
      rw [hok]
      go_wp2_with fail
      refine (impl_SectorRead none 0 0 [] (by omega) (by unfold maxLen; omega) w4 Rd.nil).mono ?_
      rintro e w5 hpost
      obtain ⟨At, ct, rfl, t, hb⟩ := hpost.get good_nil (q := 0) (p := 0) (m := 0) (B := []) (by rw [good_nil]; rfl) (by rw [good_nil]; rfl) (by rw [good_nil]; rfl) (by rw [good_nil]; rfl)
      clear hpost
      have he5 : Eff 0 0 w4 w5 := Eff.of hb
      have hz5 : w4.heap.size ≤ w5.heap.size := he5.size
      have b5 : Below W.heap.size W w5 := b4.trans (he5.below b4.size (by omega))
      replace hr := (hr.below (he5.below (B := W.heap.size) (by omega) (by omega)) (Nat.le_refl _))
      replace y := y.keep he5 (by omega)
      replace S_0 := he5.cell S_0 (by simp only; omega)
      replace S_1 := he5.cell S_1 (by simp only; omega)
      replace S_2 := he5.cell S_2 (by simp only; omega)
      replace S_l := Nat.lt_of_lt_of_le S_l hz5
      clear hb
      go_wp2
      go_ret
      exact ⟨rfl, b5.trans ((Eff.alloc _ _).below (by omega) (.inr (Nat.le_refl _)))⟩
    · skip
      obtain ⟨h1, h2, h3, h4, h5⟩ := secOk_le hok
      obtain ⟨Q, rfl⟩ : ∃ Q : Nat, q = Q := ⟨q.toNat, by omega⟩
      obtain ⟨P, rfl⟩ : ∃ P : Nat, o = P := ⟨o.toNat, by omega⟩
      have HG := Lib.hid (good_sec (Q := Q) (P := P) hok y.len)
      have HY := Lib.hid y.len
      refine (impl_SectorBytes (Q : Int) (P : Int) _ ny _ ly (by omega) w2 (y.rd (by omega))).mono ?_
      rintro e w3 hpost
      rw [hok] at hpost
      obtain ⟨Ar, cr, rfl, r, hb⟩ := hpost.yes (N := 128)
      clear hpost
      have he3 : Eff 0 0 w2 w3 := Eff.of hb
      have hz3 : w2.heap.size ≤ w3.heap.size := he3.size
      have b3 : Below W.heap.size W w3 := b2.trans (he3.below b2.size (by omega))
      replace hr := (hr.below (he3.below (B := W.heap.size) (by omega) (by omega)) (Nat.le_refl _))
      replace y := y.keep he3 (by omega)
      replace S_0 := he3.cell S_0 (by simp only; omega)
      replace S_1 := he3.cell S_1 (by simp only; omega)
      replace S_2 := he3.cell S_2 (by simp only; omega)
      replace S_l := Nat.lt_of_lt_of_le S_l hz3
      clear hb
      replace r : OwnB w3 _ _ Ar 128 cr (secBytes Q P ny ly) := r
      go_wp2_with fail
      refine (spec_SectorOk (Q : Int) (P : Int) _ ny _ (by omega) w3).mono ?_
      rintro e w4 ⟨rfl, hb⟩
      have he4 : Eff 0 0 w3 w4 := Eff.of hb
      have hz4 : w3.heap.size ≤ w4.heap.size := he4.size
      have b4 : Below W.heap.size W w4 := b3.trans (he4.below b3.size (by omega))
      replace hr := (hr.below (he4.below (B := W.heap.size) (by omega) (by omega)) (Nat.le_refl _))
      replace y := y.keep he4 (by omega)
      replace r := r.keep he4 (by omega)
      replace S_0 := he4.cell S_0 (by simp only; omega)
      replace S_1 := he4.cell S_1 (by simp only; omega)
      replace S_2 := he4.cell S_2 (by simp only; omega)
      replace S_l := Nat.lt_of_lt_of_le S_l hz4
      clear hb
      rw [hok]
      go_wp2_with fail
      refine (impl_SectorRead _ 128 _ (secBytes Q P ny ly) r.row_le (Own.caps r).2 w4 (r.rd (by omega))).mono ?_
      rintro e w5 hpost
      obtain ⟨At, ct, rfl, t, hb⟩ := hpost.get HG.out (q := Q) (p := P) (m := ny) (B := ly) (by rw [HG.out, if_pos rfl]; exact rdQ_sec (by omega)) (by rw [HG.out, if_pos rfl]; exact rdP_sec (by omega)) (by rw [HG.out, if_pos rfl]; exact rdM_sec (by omega)) (by rw [HG.out, if_pos rfl]; exact rdB_sec (by omega) HY.out)
      clear hpost
      have he5 : Eff 0 0 w4 w5 := Eff.of hb
      have hz5 : w4.heap.size ≤ w5.heap.size := he5.size
      have b5 : Below W.heap.size W w5 := b4.trans (he5.below b4.size (by omega))
      replace hr := (hr.below (he5.below (B := W.heap.size) (by omega) (by omega)) (Nat.le_refl _))
      replace y := y.keep he5 (by omega)
      replace r := r.keep he5 (by omega)
      replace S_0 := he5.cell S_0 (by simp only; omega)
      replace S_1 := he5.cell S_1 (by simp only; omega)
      replace S_2 := he5.cell S_2 (by simp only; omega)
      replace S_l := Nat.lt_of_lt_of_le S_l hz5
      clear hb
      have hc1 := (Own.rd (Own.alloc t (.cells #[.int .i64 (Q : Int), .int .i64 (P : Int), .slice At ny ct] 32)) (B := w5.heap.size) (by omega)).str 22 5 ct Try.underlying22 Try.underlying5 9 Try.underlying9
      have hc2 := (Own.rd (Own.alloc y (.cells #[.int .i64 (Q : Int), .int .i64 (P : Int), .slice At ny ct] 32)) (B := w5.heap.size) (by omega)).str 22 5 cy Try.underlying22 Try.underlying5 9 Try.underlying9
      obtain ⟨s2, hs2x⟩ : ∃ s, bstr ly = s := ⟨_, rfl⟩
      rw [hs2x] at hc1 hc2
      clear hs2x
      go_wp2
      go_ret
      exact ⟨rfl, b5.trans ((Eff.alloc _ _).below (by omega) (.inr (Nat.le_refl _)))⟩
end Go.Proofs.Ytdjjmagocakpnaa
