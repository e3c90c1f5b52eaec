/- The walk of FnTear. -/
import Derived.Test.YtdjjmagocakpnaaDraw6
import Derived.Test.YtdjjmagocakpnaaTearM
import Derived.Test.YtdjjmagocakpnaaSecR3
import Derived.Test.YtdjjmagocakpnaaSecRL
namespace Go.Proofs.Ytdjjmagocakpnaa
open Go.RowKit
theorem rd_if {w : World} {B m b k co : Nat} {l : List UInt8} (h : Rd w B 1 (some ⟨b, 0 + k, none⟩) m (Lib.byteCells l)) (hm : k = co → m = 0) : Rd w B 1 (if co = k then some ⟨b, 0, none⟩ else some ⟨b, k, none⟩) m (Lib.byteCells l) := by
  split
  · rename_i e
    have h0 := hm e.symm
    exact ⟨h.1, .inl (List.eq_nil_of_length_eq_zero (by have := h.1; omega))⟩
  · rwa [Nat.zero_add] at h
set_option maxHeartbeats 4000000 in
set_option maxRecDepth 100000 in
theorem walk_FnTear (A : Option Addr) (n c : Nat) (l : List UInt8) (W : World) (_hnc : n ≤ c) (_hm : c ≤ maxLen) (hr : Rd W W.heap.size 1 A n (Lib.byteCells l)) :
    Calls Try.prog 7 #[.slice A n c] W fun e w' => e = .returned (.bool true) ∧ Below W.heap.size W w' := by
  by_cases hn1 : 1048576 < n
  · unfold maxLen at _hm
    go_enter Try.func7, Try.ntmps7
    go_wp2
    go_ret
    exact ⟨rfl, Below.refl _ _⟩
  · have hn : n ≤ 1048576 := by omega
    clear hn1
    go_enter Try.func7, Try.ntmps7
    go_wp2_with fail
    refine (MakeSectors_any W A n c l (hr.more (by omega)) hn).mono ?_
    rintro e w1 hpost
    obtain ⟨q, o, p, k, Ax, nx, cx, lx, Ay, ny, cy, ly, rfl, ⟨hq0, hq1, ho0, ho1, hnx, hp0, hp1, hny, hne, hk0, hk1⟩, x, y, hb⟩ := hpost
    have he1 : Eff 0 0 W w1 := Eff.of hb
    have hz1 : W.heap.size ≤ w1.heap.size := he1.size
    have b1 : Below W.heap.size W w1 := he1.below (Nat.le_refl _) (by omega)
    replace hr := (hr.below (he1.below (B := W.heap.size) (by omega) (by omega)) (Nat.le_refl _))
    clear hb
    obtain ⟨Q, rfl⟩ : ∃ Q : Nat, q = Q := ⟨q.toNat, by omega⟩
    obtain ⟨O, rfl⟩ : ∃ O : Nat, o = O := ⟨o.toNat, by omega⟩
    obtain ⟨P, rfl⟩ : ∃ P : Nat, p = P := ⟨p.toNat, by omega⟩
    obtain ⟨K, rfl⟩ : ∃ K : Nat, k = K := ⟨k.toNat, by omega⟩
    have oka : secOk (Q : Int) (O : Int) nx = true := by simp [secOk, inB, hnx]; omega
    have okb : secOk (Q : Int) (P : Int) ny = true := by simp [secOk, inB, hny]; omega
    go_wp2_with fail
    have he2 : Eff 0 0 w1 (w1.alloc (.cells #[.int .i64 (Q : Int), .int .i64 (O : Int), .slice Ax nx cx] 32)) := Eff.alloc _ _
    have hs2 : (w1.alloc (.cells #[.int .i64 (Q : Int), .int .i64 (O : Int), .slice Ax nx cx] 32)).heap.size = w1.heap.size + 1 := (by simp)
    have a_0 : (w1.alloc (.cells #[.int .i64 (Q : Int), .int .i64 (O : Int), .slice Ax nx cx] 32)).cell? ⟨w1.heap.size, 0, none⟩ = some (.int .i64 (Q : Int)) := var_cell _ _ _ _ _ rfl
    have a_1 : (w1.alloc (.cells #[.int .i64 (Q : Int), .int .i64 (O : Int), .slice Ax nx cx] 32)).cell? ⟨w1.heap.size, 1, none⟩ = some (.int .i64 (O : Int)) := var_cell _ _ _ _ _ rfl
    have a_2 : (w1.alloc (.cells #[.int .i64 (Q : Int), .int .i64 (O : Int), .slice Ax nx cx] 32)).cell? ⟨w1.heap.size, 2, none⟩ = some (.slice Ax nx cx) := var_cell _ _ _ _ _ rfl
    generalize (w1.alloc (.cells #[.int .i64 (Q : Int), .int .i64 (O : Int), .slice Ax nx cx] 32)) = w2 at *
    have hz2 : w1.heap.size ≤ w2.heap.size := he2.size
    have b2 : Below W.heap.size W w2 := b1.trans (he2.below b1.size (by omega))
    replace hr := (hr.below (he2.below (B := W.heap.size) (by omega) (by omega)) (Nat.le_refl _))
    replace x := x.keep he2 (by omega)
    replace y := y.keep he2 (by omega)
    have a_l : w1.heap.size < w2.heap.size := (by omega)
    have he3 : Eff 0 0 w2 (w2.alloc (.cells #[.int .i64 (Q : Int), .int .i64 (P : Int), .slice Ay ny cy] 32)) := Eff.alloc _ _
    have hs3 : (w2.alloc (.cells #[.int .i64 (Q : Int), .int .i64 (P : Int), .slice Ay ny cy] 32)).heap.size = w2.heap.size + 1 := (by simp)
    have b_0 : (w2.alloc (.cells #[.int .i64 (Q : Int), .int .i64 (P : Int), .slice Ay ny cy] 32)).cell? ⟨w2.heap.size, 0, none⟩ = some (.int .i64 (Q : Int)) := var_cell _ _ _ _ _ rfl
    have b_1 : (w2.alloc (.cells #[.int .i64 (Q : Int), .int .i64 (P : Int), .slice Ay ny cy] 32)).cell? ⟨w2.heap.size, 1, none⟩ = some (.int .i64 (P : Int)) := var_cell _ _ _ _ _ rfl
    have b_2 : (w2.alloc (.cells #[.int .i64 (Q : Int), .int .i64 (P : Int), .slice Ay ny cy] 32)).cell? ⟨w2.heap.size, 2, none⟩ = some (.slice Ay ny cy) := var_cell _ _ _ _ _ rfl
    generalize (w2.alloc (.cells #[.int .i64 (Q : Int), .int .i64 (P : Int), .slice Ay ny cy] 32)) = w3 at *
    have hz3 : w2.heap.size ≤ w3.heap.size := he3.size
    have b3 : Below W.heap.size W w3 := b2.trans (he3.below b2.size (by omega))
    replace hr := (hr.below (he3.below (B := W.heap.size) (by omega) (by omega)) (Nat.le_refl _))
    replace x := x.keep he3 (by omega)
    replace y := y.keep he3 (by omega)
    replace a_0 := he3.cell a_0 (by simp only; omega)
    replace a_1 := he3.cell a_1 (by simp only; omega)
    replace a_2 := he3.cell a_2 (by simp only; omega)
    replace a_l := Nat.lt_of_lt_of_le a_l hz3
    rw [hs2] at b_0
    rw [hs2] at b_1
    rw [hs2] at b_2
    have b_l : w1.heap.size + 1 < w3.heap.size := (by omega)
    refine (impl_SectorBytes (Q : Int) (O : Int) _ nx _ lx (by omega) w3 (x.rd (by omega))).mono ?_
    rintro e w4 hpost
    rw [oka] at hpost
    obtain ⟨Ao, co, rfl, r, hb⟩ := hpost.yes (N := 128)
    clear hpost
    have he4 : Eff 0 0 w3 w4 := Eff.of hb
    have hz4 : w3.heap.size ≤ w4.heap.size := he4.size
    have b4 : Below W.heap.size W w4 := b3.trans (he4.below b3.size (by omega))
    replace hr := (hr.below (he4.below (B := W.heap.size) (by omega) (by omega)) (Nat.le_refl _))
    replace x := x.keep he4 (by omega)
    replace y := y.keep he4 (by omega)
    replace a_0 := he4.cell a_0 (by simp only; omega)
    replace a_1 := he4.cell a_1 (by simp only; omega)
    replace a_2 := he4.cell a_2 (by simp only; omega)
    replace b_0 := he4.cell b_0 (by simp only; omega)
    replace b_1 := he4.cell b_1 (by simp only; omega)
    replace b_2 := he4.cell b_2 (by simp only; omega)
    replace a_l := Nat.lt_of_lt_of_le a_l hz4
    replace b_l := Nat.lt_of_lt_of_le b_l hz4
    clear hb
    replace r : OwnB w4 _ _ Ao 128 co (secBytes Q O nx lx) := r
    go_wp2_with fail
    refine (impl_SectorBytes (Q : Int) (P : Int) _ ny _ ly (by omega) w4 (y.rd (by omega))).mono ?_
    rintro e w5 hpost
    rw [okb] at hpost
    obtain ⟨Az, cz, rfl, z, hb⟩ := hpost.yes (N := 128)
    clear hpost
    have he5 : Eff 0 0 w4 w5 := Eff.of hb
    have hz5 : w4.heap.size ≤ w5.heap.size := he5.size
    have b5 : Below W.heap.size W w5 := b4.trans (he5.below b4.size (by omega))
    replace hr := (hr.below (he5.below (B := W.heap.size) (by omega) (by omega)) (Nat.le_refl _))
    replace x := x.keep he5 (by omega)
    replace y := y.keep he5 (by omega)
    replace r := r.keep he5 (by omega)
    replace a_0 := he5.cell a_0 (by simp only; omega)
    replace a_1 := he5.cell a_1 (by simp only; omega)
    replace a_2 := he5.cell a_2 (by simp only; omega)
    replace b_0 := he5.cell b_0 (by simp only; omega)
    replace b_1 := he5.cell b_1 (by simp only; omega)
    replace b_2 := he5.cell b_2 (by simp only; omega)
    replace a_l := Nat.lt_of_lt_of_le a_l hz5
    replace b_l := Nat.lt_of_lt_of_le b_l hz5
    clear hb
    replace z : OwnB w5 _ _ Az 128 cz (secBytes Q P ny ly) := z
    obtain ⟨gr, rfl, hgr1, hgr2, -, -⟩ := Own.form r (by omega)
    obtain ⟨gz, rfl, hgz1, hgz2, -, -⟩ := Own.form z (by omega)
    have hco := r.row_le
    have hcz := z.row_le
    have hco2 := (Own.caps r).2
    have hcz2 := (Own.caps z).2
    unfold maxLen at hco2 hcz2
    obtain ⟨i0, hi0, hj0, hj1, hj2⟩ := info_parts info_u8
    have hKc2 : (K : Int) ≤ (co : Int) := by omega
    have hKz : (K : Int) ≤ (cz : Int) := by omega
    have hK8 : (K : Int) ≤ 128 := by omega
    have hKp : (0 : Int) ≤ (K : Int) := by omega
    go_wp2_with fail
    have he6 : Eff 0 0 w5 w5.drew := (Eff.refl _ _ _).drew
    have hz6 : w5.heap.size ≤ w5.drew.heap.size := he6.size
    have b6 : Below W.heap.size W w5.drew := b5.trans (he6.below b5.size (by omega))
    replace hr := (hr.below (he6.below (B := W.heap.size) (by omega) (by omega)) (Nat.le_refl _))
    replace x := x.keep he6 (by omega)
    replace y := y.keep he6 (by omega)
    replace r := r.keep he6 (by omega)
    replace z := z.keep he6 (by omega)
    replace a_0 := he6.cell a_0 (by simp only; omega)
    replace a_1 := he6.cell a_1 (by simp only; omega)
    replace a_2 := he6.cell a_2 (by simp only; omega)
    replace b_0 := he6.cell b_0 (by simp only; omega)
    replace b_1 := he6.cell b_1 (by simp only; omega)
    replace b_2 := he6.cell b_2 (by simp only; omega)
    replace a_l := Nat.lt_of_lt_of_le a_l hz6
    replace b_l := Nat.lt_of_lt_of_le b_l hz6
    go_region_held3 (fun w' => True) ((go_split_ands; (repeat' apply And.intro) <;> (first | assumption))) (first | (have he7 : Eff 0 0 w5.drew (w5.alloc (.cells #[] 5)).drew := (Eff.undrew (Eff.drew (Eff.alloc _ _))); have hs7 : (w5.alloc (.cells #[] 5)).drew.heap.size = w5.heap.size + 1 := (by simp); have e0 : OwnB (w5.alloc (.cells #[] 5)).drew (w5.heap.size) (w5.heap.size + 1) _ 0 0 [] := (new_empty w5 5 1).drew; generalize (w5.alloc (.cells #[] 5)).drew = w7 at *; have hz7 : w5.drew.heap.size ≤ w7.heap.size := he7.size; have b7 : Below W.heap.size W w7 := b6.trans (he7.below b6.size (by omega)); replace hr := (hr.below (he7.below (B := W.heap.size) (by omega) (by omega)) (Nat.le_refl _)); replace x := x.keep he7 (by omega); replace y := y.keep he7 (by omega); replace r := r.keep he7 (by omega); replace z := z.keep he7 (by omega); replace a_0 := he7.cell a_0 (by simp only; omega); replace a_1 := he7.cell a_1 (by simp only; omega); replace a_2 := he7.cell a_2 (by simp only; omega); replace b_0 := he7.cell b_0 (by simp only; omega); replace b_1 := he7.cell b_1 (by simp only; omega); replace b_2 := he7.cell b_2 (by simp only; omega); replace a_l := Nat.lt_of_lt_of_le a_l hz7; replace b_l := Nat.lt_of_lt_of_le b_l hz7; refine step_app _ (by rfl) _ _ 22 (by rfl) 5 i0 (.int .u8 0) 1 1 Try.underlying22 hi0 hj0 hj1 hj2 rfl (by omega) (by rfl) e0 cz (by rfl) (((z.rd (B := w7.heap.size) (by omega)).sub (lo := 0) (m := K) (by omega))) (byteCells_one' _) (by unfold maxLen; omega) (by omega) (by omega) ?_; intro Am1 cm1 w8 m1 hE _; have he8 : Eff (w5.heap.size) (w5.heap.size + 1) w7 w8 := hE; have hz8 : w7.heap.size ≤ w8.heap.size := he8.size; have b8 : Below W.heap.size W w8 := b7.trans (he8.below b7.size (by omega)); replace hr := (hr.below (he8.below (B := W.heap.size) (by omega) (by omega)) (Nat.le_refl _)); replace x := x.keep he8 (by omega); replace y := y.keep he8 (by omega); replace r := r.keep he8 (by omega); replace z := z.keep he8 (by omega); replace a_0 := he8.cell a_0 (by simp only; omega); replace a_1 := he8.cell a_1 (by simp only; omega); replace a_2 := he8.cell a_2 (by simp only; omega); replace b_0 := he8.cell b_0 (by simp only; omega); replace b_1 := he8.cell b_1 (by simp only; omega); replace b_2 := he8.cell b_2 (by simp only; omega); replace a_l := Nat.lt_of_lt_of_le a_l hz8; replace b_l := Nat.lt_of_lt_of_le b_l hz8; clear hE; clear e0; replace m1 := OwnB.of_app m1) | (refine step_app _ (by rfl) _ _ 22 (by rfl) 5 i0 (.int .u8 0) 1 1 Try.underlying22 hi0 hj0 hj1 hj2 rfl (by omega) (by rfl) m1 (co - K) (by rfl) (rd_if ((r.rd (B := w8.heap.size) (by omega)).sub (lo := K) (m := 128 - K) (by omega)) (by omega)) (byteCells_one' _) (by unfold maxLen; omega) (by omega) (by omega) ?_; intro Am2 cm2 w9 m2 hE _; have he9 : Eff (w5.heap.size) (w8.heap.size) w8 w9 := hE; have hz9 : w8.heap.size ≤ w9.heap.size := he9.size; have b9 : Below W.heap.size W w9 := b8.trans (he9.below b8.size (by omega)); replace hr := (hr.below (he9.below (B := W.heap.size) (by omega) (by omega)) (Nat.le_refl _)); replace x := x.keep he9 (by omega); replace y := y.keep he9 (by omega); replace r := r.keep he9 (by omega); replace z := z.keep he9 (by omega); replace a_0 := he9.cell a_0 (by simp only; omega); replace a_1 := he9.cell a_1 (by simp only; omega); replace a_2 := he9.cell a_2 (by simp only; omega); replace b_0 := he9.cell b_0 (by simp only; omega); replace b_1 := he9.cell b_1 (by simp only; omega); replace b_2 := he9.cell b_2 (by simp only; omega); replace a_l := Nat.lt_of_lt_of_le a_l hz9; replace b_l := Nat.lt_of_lt_of_le b_l hz9; clear hE; clear m1; replace m2 := OwnB.of_app m2))
    generalize (if co = K then some (⟨gr, 0, none⟩ : Addr) else some ⟨gr, K, none⟩) = XA at *
    have e128 : K + (128 - K) = 128 := by omega
    have hlo := secB_len (q := Q) (p := O) x.len hnx
    have HLX := Lib.hid x.len
    have HLY := Lib.hid y.len
    obtain ⟨mix, hmix⟩ : ∃ mix, mix = (secBytes Q P ny ly).take K ++ (secBytes Q O nx lx).drop K := ⟨_, rfl⟩
    have m : OwnB w9 (w5.heap.size) w9.heap.size Am2 128 cm2 mix := (by rw [hmix]; have m3 := m2; simp only [Nat.zero_add, e128, List.nil_append, List.drop_zero] at m3; rw [List.take_of_length_le (l := (secBytes Q O nx lx).drop K) (i := 128 - K) (by rw [List.length_drop, hlo]; omega)] at m3; exact m3)
    clear m2
    rw [e128]
    have HMIX := Lib.hid hmix
    clear hmix e128 hlo
    rcases hg : secGood mix with _ | _
    · skip
      have hK : (K : Int) < 128 := by
        by_cases h : K = 128
        · exfalso
          have e : mix = secBytes Q P ny ly := by rw [HMIX.out, h, List.take_of_length_le (by rw [secB_len HLY.out hny]; omega), List.drop_of_length_le (by rw [secB_len HLX.out hnx]; omega), List.append_nil]
          rw [e, good_sec okb HLY.out] at hg
          cases hg
        · omega
      have HG := Lib.hid hg
      clear hg
      go_wp2_with fail
      refine (impl_SectorRead _ 128 _ mix m.row_le (Own.caps m).2 w9 (m.rd (by omega))).mono ?_
      rintro e w10 hpost
      obtain ⟨At, ct, rfl, t, hb⟩ := hpost.get HG.out (q := 0) (p := 0) (m := 0) (B := []) (by rw [HG.out]; rfl) (by rw [HG.out]; rfl) (by rw [HG.out]; rfl) (by rw [HG.out]; rfl)
      clear hpost
      have he10 : Eff 0 0 w9 w10 := Eff.of hb
      have hz10 : w9.heap.size ≤ w10.heap.size := he10.size
      have b10 : Below W.heap.size W w10 := b9.trans (he10.below b9.size (by omega))
      replace hr := (hr.below (he10.below (B := W.heap.size) (by omega) (by omega)) (Nat.le_refl _))
      replace x := x.keep he10 (by omega)
      replace y := y.keep he10 (by omega)
      replace r := r.keep he10 (by omega)
      replace z := z.keep he10 (by omega)
      replace m := m.keep he10 (by omega)
      replace a_0 := he10.cell a_0 (by simp only; omega)
      replace a_1 := he10.cell a_1 (by simp only; omega)
      replace a_2 := he10.cell a_2 (by simp only; omega)
      replace b_0 := he10.cell b_0 (by simp only; omega)
      replace b_1 := he10.cell b_1 (by simp only; omega)
      replace b_2 := he10.cell b_2 (by simp only; omega)
      replace a_l := Nat.lt_of_lt_of_le a_l hz10
      replace b_l := Nat.lt_of_lt_of_le b_l hz10
      clear hb
      go_wp2
      go_ret
      exact ⟨rfl, b10.trans ((Eff.alloc _ _).below (by omega) (.inr (Nat.le_refl _)))⟩
    · rcases tear (by omega) (by omega) (by omega) hnx hny HLX.out HLY.out (by omega) HMIX.out hg with hm | hm
      · skip
        have HE := Lib.hid hm
        clear hm
        have HG := Lib.hid hg
        clear hg
        go_wp2_with fail
        refine (impl_SectorRead _ 128 _ mix m.row_le (Own.caps m).2 w9 (m.rd (by omega))).mono ?_
        rintro e w10 hpost
        obtain ⟨At, ct, rfl, t, hb⟩ := hpost.get HG.out (q := Q) (p := O) (m := nx) (B := lx) (by rw [HG.out, if_pos rfl, HE.out]; exact rdQ_sec (by omega)) (by rw [HG.out, if_pos rfl, HE.out]; exact rdP_sec (by omega)) (by rw [HG.out, if_pos rfl, HE.out]; exact rdM_sec (by omega)) (by rw [HG.out, if_pos rfl, HE.out]; exact rdB_sec (by omega) HLX.out)
        clear hpost
        have he10 : Eff 0 0 w9 w10 := Eff.of hb
        have hz10 : w9.heap.size ≤ w10.heap.size := he10.size
        have b10 : Below W.heap.size W w10 := b9.trans (he10.below b9.size (by omega))
        replace hr := (hr.below (he10.below (B := W.heap.size) (by omega) (by omega)) (Nat.le_refl _))
        replace x := x.keep he10 (by omega)
        replace y := y.keep he10 (by omega)
        replace r := r.keep he10 (by omega)
        replace z := z.keep he10 (by omega)
        replace m := m.keep he10 (by omega)
        replace a_0 := he10.cell a_0 (by simp only; omega)
        replace a_1 := he10.cell a_1 (by simp only; omega)
        replace a_2 := he10.cell a_2 (by simp only; omega)
        replace b_0 := he10.cell b_0 (by simp only; omega)
        replace b_1 := he10.cell b_1 (by simp only; omega)
        replace b_2 := he10.cell b_2 (by simp only; omega)
        replace a_l := Nat.lt_of_lt_of_le a_l hz10
        replace b_l := Nat.lt_of_lt_of_le b_l hz10
        clear hb
        have hc1 := (Own.rd (Own.alloc t (.cells #[.int .i64 (Q : Int), .int .i64 (O : Int), .slice At nx ct] 32)) (B := w10.heap.size) (by omega)).str 22 5 ct Try.underlying22 Try.underlying5 9 Try.underlying9
        have hc2 := (Own.rd (Own.alloc x (.cells #[.int .i64 (Q : Int), .int .i64 (O : Int), .slice At nx ct] 32)) (B := w10.heap.size) (by omega)).str 22 5 cx Try.underlying22 Try.underlying5 9 Try.underlying9
        obtain ⟨s2, hs2x⟩ : ∃ s, bstr lx = s := ⟨_, rfl⟩
        rw [hs2x] at hc1 hc2
        clear hs2x
        go_wp2
        go_ret
        exact ⟨rfl, b10.trans ((Eff.alloc _ _).below (by omega) (.inr (Nat.le_refl _)))⟩
      · skip
        have HE := Lib.hid hm
        clear hm
        have HG := Lib.hid hg
        clear hg
        go_wp2_with fail
        refine (impl_SectorRead _ 128 _ mix m.row_le (Own.caps m).2 w9 (m.rd (by omega))).mono ?_
        rintro e w10 hpost
        obtain ⟨At, ct, rfl, t, hb⟩ := hpost.get HG.out (q := Q) (p := P) (m := ny) (B := ly) (by rw [HG.out, if_pos rfl, HE.out]; exact rdQ_sec (by omega)) (by rw [HG.out, if_pos rfl, HE.out]; exact rdP_sec (by omega)) (by rw [HG.out, if_pos rfl, HE.out]; exact rdM_sec (by omega)) (by rw [HG.out, if_pos rfl, HE.out]; exact rdB_sec (by omega) HLY.out)
        clear hpost
        have he10 : Eff 0 0 w9 w10 := Eff.of hb
        have hz10 : w9.heap.size ≤ w10.heap.size := he10.size
        have b10 : Below W.heap.size W w10 := b9.trans (he10.below b9.size (by omega))
        replace hr := (hr.below (he10.below (B := W.heap.size) (by omega) (by omega)) (Nat.le_refl _))
        replace x := x.keep he10 (by omega)
        replace y := y.keep he10 (by omega)
        replace r := r.keep he10 (by omega)
        replace z := z.keep he10 (by omega)
        replace m := m.keep he10 (by omega)
        replace a_0 := he10.cell a_0 (by simp only; omega)
        replace a_1 := he10.cell a_1 (by simp only; omega)
        replace a_2 := he10.cell a_2 (by simp only; omega)
        replace b_0 := he10.cell b_0 (by simp only; omega)
        replace b_1 := he10.cell b_1 (by simp only; omega)
        replace b_2 := he10.cell b_2 (by simp only; omega)
        replace a_l := Nat.lt_of_lt_of_le a_l hz10
        replace b_l := Nat.lt_of_lt_of_le b_l hz10
        clear hb
        have hc1 := (Own.rd (Own.alloc t (.cells #[.int .i64 (Q : Int), .int .i64 (P : Int), .slice At ny ct] 32)) (B := w10.heap.size) (by omega)).str 22 5 ct Try.underlying22 Try.underlying5 9 Try.underlying9
        have hc2 := (Own.rd (Own.alloc y (.cells #[.int .i64 (Q : Int), .int .i64 (P : Int), .slice At ny ct] 32)) (B := w10.heap.size) (by omega)).str 22 5 cy Try.underlying22 Try.underlying5 9 Try.underlying9
        have hc3 := (Own.rd (Own.alloc m (.cells #[.int .i64 (Q : Int), .int .i64 (P : Int), .slice At ny ct] 32)) (B := w10.heap.size) (by omega)).str 22 5 cm2 Try.underlying22 Try.underlying5 9 Try.underlying9
        have hc4 := (Own.rd (Own.alloc z (.cells #[.int .i64 (Q : Int), .int .i64 (P : Int), .slice At ny ct] 32)) (B := w10.heap.size) (by omega)).str 22 5 cz Try.underlying22 Try.underlying5 9 Try.underlying9
        rw [HE.out] at hc3
        obtain ⟨s3, hs3x⟩ : ∃ s, bstr (secBytes Q P ny ly) = s := ⟨_, rfl⟩
        rw [hs3x] at hc3 hc4
        clear hs3x
        have hpo : ((P : Int) == (O : Int)) = false := by simp; omega
        obtain ⟨s2, hs2x⟩ : ∃ s, bstr ly = s := ⟨_, rfl⟩
        rw [hs2x] at hc1 hc2
        clear hs2x
        go_wp2
        go_ret
        exact ⟨rfl, b10.trans ((Eff.alloc _ _).below (by omega) (.inr (Nat.le_refl _)))⟩
end Go.Proofs.Ytdjjmagocakpnaa
