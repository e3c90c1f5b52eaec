/- DiskSync (program). -/
import Derived.Test.YtblenfhacaecmaaDwr
import Derived.Test.YtblenfhacaecmaaCpo
import Derived.Test.YtblenfhacaecmaaDcr
import Derived.Test.YtblenfhacaecmaaDrd
namespace Go.Proofs.Ytblenfhacaecmaa
open Go.RowKit
theorem madeD_no {W w : World} (h : Below W.heap.size W w) : MadeD [] [] W (.returned (.agg #[.slice none 0 0, .slice none 0 0])) w := by
  obtain ⟨Ac, nc, cc, Aw, nw, cw, h1, h2, h3, h4, h5⟩ := madeDT_no h
  simp only [Ending.returned.injEq, Value.tuple.injEq, Array.mk.injEq, List.cons.injEq, and_true] at h3
  exact ⟨Ac, nc, cc, Aw, nw, cw, h1, h2, by rw [h3], h4, h5⟩
theorem madeD_cells {g H lo n1 c1 : Nat} {W w : World} {A1 : Option Addr} {cs : List Ce} {dc : List (List UInt8)} {u v0 v1 : Value} (hd1 : cs.map Ce.d = dc) (t1 : OwnCell w lo w.heap.size A1 n1 c1 cs) (ho : OffR Ce.g A1 n1 c1 cs H) (hb : Below W.heap.size W w) (h2 : W.heap.size ≤ g) (h4 : g < lo) (hH : W.heap.size ≤ H) :
    MadeD dc [] W (.returned (.agg #[.slice A1 n1 c1, .slice none 0 0])) (((w.setCell ⟨H, 1, none⟩ u).setCell ⟨g, 0, none⟩ v0).setCell ⟨g, 1, none⟩ v1) := by
  have e0 := eff_set w H 1 u
  have e : Eff g (g + 1) (w.setCell ⟨H, 1, none⟩ u) (((w.setCell ⟨H, 1, none⟩ u).setCell ⟨g, 0, none⟩ v0).setCell ⟨g, 1, none⟩ v1) := eff_two
  have hs : (((w.setCell ⟨H, 1, none⟩ u).setCell ⟨g, 0, none⟩ v0).setCell ⟨g, 1, none⟩ v1).heap.size = w.heap.size := by simp
  have l1 := t1.lohi
  have k1 := (t1.keepOff ho e0).keep e (.inr (.inl (by omega)))
  exact MadeDk.d ⟨A1, n1, c1, none, 0, 0, cs, [], rfl, hd1, rfl, ⟨w.heap.size, k1.wide (by omega) (Nat.le_refl _) (by omega), OwnR.nil (by omega) (by omega)⟩, (((hb.setCell hH _).setCell h2 _).setCell h2 _)⟩
/-- The cells of element i of the call's own cells. -/
theorem cell_outs {w : World} {lo hi n c gb i : Nat} {es : List Ce} (h : OwnCell w lo hi (some ⟨gb, 0, none⟩) n c es) (hi1 : i < n) :
    ∃ A m c' l, es[i]? = some ⟨A, m, c', l⟩ ∧ w.cell? ⟨gb, i, none⟩ = some (.slice A m c') ∧ w.frozen? ⟨gb, i, none⟩ = false ∧ Rd w hi 1 A m (Lib.byteCells l) ∧ m ≤ c' ∧ c' ≤ maxLen := by
  obtain ⟨g', ⟨A, m, c', l⟩, hA, _, _, hx, hc, hf, ho⟩ := h.outs Ce.hf (by omega) hi1
  cases hA
  refine ⟨A, m, c', l, hx, by have := hc 0 _ rfl; simpa [Nat.mul_one] using this, hf i, Own.rd ho (Nat.le_refl _), Own.caps ho⟩
theorem cell_stored {w : World} {et lo hi n c gb i : Nat} {es : List Ce} {xs : List Value} {x y : Ce} (hx : es[i]? = some x) (h : Own et 1 w lo hi (some ⟨gb, 0, none⟩) n c xs) (hxs : xs = es.flatMap Ce.f) : Own et 1 (w.setCell ⟨gb, i, none⟩ (.slice y.A y.n y.c)) lo hi (some ⟨gb, 0, none⟩) n c ((es.set i y).flatMap Ce.f) := by
  subst hxs
  have h1 := (h.stored i (.slice y.A y.n y.c)).1
  have h2 : (es.flatMap Ce.f).set i (.slice y.A y.n y.c) = (es.set i y).flatMap Ce.f := by
    have := flat_setcell Ce.hf (i := i) (j := 0) (x := x) (y := y) (u := .slice y.A y.n y.c) hx (by omega) rfl
    simpa [Nat.mul_one] using this
  rw [h2] at h1
  exact h1
set_option maxHeartbeats 4000000 in
set_option maxRecDepth 100000 in
theorem impl_DiskSync_d (Ac : Option Addr) (nc cc : Nat) (Aw : Option Addr) (nw cw : Nat) (dc : List (List UInt8)) (dw : List (Int × List UInt8)) (W : World) (h : RdDk W W.heap.size Ac nc Aw nw dc dw) (LB : lenB dc dw) :
    Calls Try.prog 25 #[.agg #[.slice Ac nc cc, .slice Aw nw cw]] W (MadeD (if dkOk dc dw then syncN dc dw dw.length else []) [] W) := by
  have hlc := h.len.1
  have hlw := h.len.2
  have hncb : nc ≤ 1048576 := by have := LB.1; omega
  have hnwb : nw ≤ 1048576 := by have := LB.2.1; omega
  have HLC := Lib.hid hlc
  have HLW := Lib.hid hlw
  clear hlc hlw
  obtain ⟨u0, hu0, hv0, hv1, hv2⟩ := info_parts info_u8
  obtain ⟨cs0, ws0, hrc, hrw, hdc, hdw⟩ := h
  have HDC := Lib.hid hdc
  have HDW := Lib.hid hdw
  have h : RdDk W W.heap.size Ac nc Aw nw dc dw := ⟨cs0, ws0, hrc, hrw, hdc, hdw⟩
  have hlo : lenOk cs0 ws0 := ⟨fun x hx => by have := ce_len hrc (m := 1048576) (by rw [hdc]; exact LB.2.2.1) x hx; omega, fun x hx => by have := wr_len hrw (m := 1048576) (by rw [hdw]; exact LB.2.2.2) x hx; omega⟩
  have HLO := Lib.hid hlo
  have HLB := Lib.hid LB
  clear hlo hdc hdw LB
  rcases hok : dkOk dc dw with _ | _
  · simp only [Bool.false_eq_true, if_false]
    go_enter Try.func25, Try.ntmps25
    go_wp2_with fail
    have he1 : Eff 0 0 W (W.alloc (.cells #[.slice Ac nc cc, .slice Aw nw cw] 33)) := Eff.alloc _ _
    have hs1 : (W.alloc (.cells #[.slice Ac nc cc, .slice Aw nw cw] 33)).heap.size = W.heap.size + 1 := (by simp)
    have aD_0 : (W.alloc (.cells #[.slice Ac nc cc, .slice Aw nw cw] 33)).cell? ⟨W.heap.size, 0, none⟩ = some (.slice Ac nc cc) := var_cell _ _ _ _ _ rfl
    have aD_1 : (W.alloc (.cells #[.slice Ac nc cc, .slice Aw nw cw] 33)).cell? ⟨W.heap.size, 1, none⟩ = some (.slice Aw nw cw) := var_cell _ _ _ _ _ rfl
    generalize (W.alloc (.cells #[.slice Ac nc cc, .slice Aw nw cw] 33)) = w1 at *
    have hz1 : W.heap.size ≤ w1.heap.size := he1.size
    have b1 : Below W.heap.size W w1 := he1.below (Nat.le_refl _) (by omega)
    replace h := (h.below (he1.below (B := W.heap.size) (by omega) (by omega)) (Nat.le_refl _))
    replace hrc := (hrc.below (he1.below (B := W.heap.size) (by omega) (by omega)) (Nat.le_refl _))
    replace hrw := (hrw.below (he1.below (B := W.heap.size) (by omega) (by omega)) (Nat.le_refl _))
    have aD_l : W.heap.size < w1.heap.size := (by omega)
    have he2 : Eff 0 0 w1 (w1.alloc (.cells #[.slice none 0 0, .slice none 0 0] 33)) := Eff.alloc _ _
    have hs2 : (w1.alloc (.cells #[.slice none 0 0, .slice none 0 0] 33)).heap.size = w1.heap.size + 1 := (by simp)
    have res_0 : (w1.alloc (.cells #[.slice none 0 0, .slice none 0 0] 33)).cell? ⟨w1.heap.size, 0, none⟩ = some (.slice none 0 0) := var_cell _ _ _ _ _ rfl
    have res_1 : (w1.alloc (.cells #[.slice none 0 0, .slice none 0 0] 33)).cell? ⟨w1.heap.size, 1, none⟩ = some (.slice none 0 0) := var_cell _ _ _ _ _ rfl
    have res_f0 : (w1.alloc (.cells #[.slice none 0 0, .slice none 0 0] 33)).frozen? ⟨w1.heap.size, 0, none⟩ = false := var_frozen _ _ _ _
    have res_f1 : (w1.alloc (.cells #[.slice none 0 0, .slice none 0 0] 33)).frozen? ⟨w1.heap.size, 1, none⟩ = false := var_frozen _ _ _ _
    generalize (w1.alloc (.cells #[.slice none 0 0, .slice none 0 0] 33)) = w2 at *
    have hz2 : w1.heap.size ≤ w2.heap.size := he2.size
    have b2 : Below W.heap.size W w2 := b1.trans (he2.below b1.size (by omega))
    replace h := (h.below (he2.below (B := W.heap.size) (by omega) (by omega)) (Nat.le_refl _))
    replace hrc := (hrc.below (he2.below (B := W.heap.size) (by omega) (by omega)) (Nat.le_refl _))
    replace hrw := (hrw.below (he2.below (B := W.heap.size) (by omega) (by omega)) (Nat.le_refl _))
    replace aD_0 := he2.cell aD_0 (by simp only; omega)
    replace aD_1 := he2.cell aD_1 (by simp only; omega)
    replace aD_l := Nat.lt_of_lt_of_le aD_l hz2
    rw [hs1] at res_0 res_f0
    rw [hs1] at res_1 res_f1
    have res_l : W.heap.size + 1 < w2.heap.size := (by omega)
    refine (impl_DiskOk_d Ac nc cc Aw nw cw dc dw w2 (h.more (by omega)) HLB.out).mono ?_
    rintro e w3 ⟨rfl, hb⟩
    have he3 : Eff 0 0 w2 w3 := Eff.of hb
    have hz3 : w2.heap.size ≤ w3.heap.size := he3.size
    have b3 : Below W.heap.size W w3 := b2.trans (he3.below b2.size (by omega))
    replace h := (h.below (he3.below (B := W.heap.size) (by omega) (by omega)) (Nat.le_refl _))
    replace hrc := (hrc.below (he3.below (B := W.heap.size) (by omega) (by omega)) (Nat.le_refl _))
    replace hrw := (hrw.below (he3.below (B := W.heap.size) (by omega) (by omega)) (Nat.le_refl _))
    replace res_f0 := (he3.frozen res_0 (by simp only; omega)).trans res_f0
    replace res_f1 := (he3.frozen res_1 (by simp only; omega)).trans res_f1
    replace aD_0 := he3.cell aD_0 (by simp only; omega)
    replace aD_1 := he3.cell aD_1 (by simp only; omega)
    replace res_0 := he3.cell res_0 (by simp only; omega)
    replace res_1 := he3.cell res_1 (by simp only; omega)
    replace aD_l := Nat.lt_of_lt_of_le aD_l hz3
    replace res_l := Nat.lt_of_lt_of_le res_l hz3
    clear hb
    rw [hok]
    go_wp2
    refine bodyPost_ret (v := .agg #[.slice none 0 0, .slice none 0 0]) (by simp [results, Try.results25, go_sem, *]) rfl ?_
    exact madeD_no (b3.trans (eff_two.below b3.size (.inl (by omega))))
  simp only [if_true]
  have hnc1 : 1 ≤ nc := by have := (dkOk_iff.1 hok).1; rw [HLC.out] at this; omega
  obtain ⟨R, hR⟩ : ∃ R, syncN dc dw dw.length = R := ⟨_, rfl⟩
  rw [hR]
  have HR := Lib.hid hR
  have HOK := Lib.hid (dkOk_iff.1 hok).2.2
  clear hR
  go_enter Try.func25, Try.ntmps25
  go_wp2_with fail
  have he1 : Eff 0 0 W (W.alloc (.cells #[.slice Ac nc cc, .slice Aw nw cw] 33)) := Eff.alloc _ _
  have hs1 : (W.alloc (.cells #[.slice Ac nc cc, .slice Aw nw cw] 33)).heap.size = W.heap.size + 1 := (by simp)
  have aD_0 : (W.alloc (.cells #[.slice Ac nc cc, .slice Aw nw cw] 33)).cell? ⟨W.heap.size, 0, none⟩ = some (.slice Ac nc cc) := var_cell _ _ _ _ _ rfl
  have aD_1 : (W.alloc (.cells #[.slice Ac nc cc, .slice Aw nw cw] 33)).cell? ⟨W.heap.size, 1, none⟩ = some (.slice Aw nw cw) := var_cell _ _ _ _ _ rfl
  generalize (W.alloc (.cells #[.slice Ac nc cc, .slice Aw nw cw] 33)) = w1 at *
  have hz1 : W.heap.size ≤ w1.heap.size := he1.size
  have b1 : Below W.heap.size W w1 := he1.below (Nat.le_refl _) (by omega)
  replace h := (h.below (he1.below (B := W.heap.size) (by omega) (by omega)) (Nat.le_refl _))
  replace hrc := (hrc.below (he1.below (B := W.heap.size) (by omega) (by omega)) (Nat.le_refl _))
  replace hrw := (hrw.below (he1.below (B := W.heap.size) (by omega) (by omega)) (Nat.le_refl _))
  have aD_l : W.heap.size < w1.heap.size := (by omega)
  have he2 : Eff 0 0 w1 (w1.alloc (.cells #[.slice none 0 0, .slice none 0 0] 33)) := Eff.alloc _ _
  have hs2 : (w1.alloc (.cells #[.slice none 0 0, .slice none 0 0] 33)).heap.size = w1.heap.size + 1 := (by simp)
  have res_0 : (w1.alloc (.cells #[.slice none 0 0, .slice none 0 0] 33)).cell? ⟨w1.heap.size, 0, none⟩ = some (.slice none 0 0) := var_cell _ _ _ _ _ rfl
  have res_1 : (w1.alloc (.cells #[.slice none 0 0, .slice none 0 0] 33)).cell? ⟨w1.heap.size, 1, none⟩ = some (.slice none 0 0) := var_cell _ _ _ _ _ rfl
  have res_f0 : (w1.alloc (.cells #[.slice none 0 0, .slice none 0 0] 33)).frozen? ⟨w1.heap.size, 0, none⟩ = false := var_frozen _ _ _ _
  have res_f1 : (w1.alloc (.cells #[.slice none 0 0, .slice none 0 0] 33)).frozen? ⟨w1.heap.size, 1, none⟩ = false := var_frozen _ _ _ _
  generalize (w1.alloc (.cells #[.slice none 0 0, .slice none 0 0] 33)) = w2 at *
  have hz2 : w1.heap.size ≤ w2.heap.size := he2.size
  have b2 : Below W.heap.size W w2 := b1.trans (he2.below b1.size (by omega))
  replace h := (h.below (he2.below (B := W.heap.size) (by omega) (by omega)) (Nat.le_refl _))
  replace hrc := (hrc.below (he2.below (B := W.heap.size) (by omega) (by omega)) (Nat.le_refl _))
  replace hrw := (hrw.below (he2.below (B := W.heap.size) (by omega) (by omega)) (Nat.le_refl _))
  replace aD_0 := he2.cell aD_0 (by simp only; omega)
  replace aD_1 := he2.cell aD_1 (by simp only; omega)
  replace aD_l := Nat.lt_of_lt_of_le aD_l hz2
  rw [hs1] at res_0 res_f0
  rw [hs1] at res_1 res_f1
  have res_l : W.heap.size + 1 < w2.heap.size := (by omega)
  refine (impl_DiskOk_d Ac nc cc Aw nw cw dc dw w2 (h.more (by omega)) HLB.out).mono ?_
  rintro e w3 ⟨rfl, hb⟩
  have he3 : Eff 0 0 w2 w3 := Eff.of hb
  have hz3 : w2.heap.size ≤ w3.heap.size := he3.size
  have b3 : Below W.heap.size W w3 := b2.trans (he3.below b2.size (by omega))
  replace h := (h.below (he3.below (B := W.heap.size) (by omega) (by omega)) (Nat.le_refl _))
  replace hrc := (hrc.below (he3.below (B := W.heap.size) (by omega) (by omega)) (Nat.le_refl _))
  replace hrw := (hrw.below (he3.below (B := W.heap.size) (by omega) (by omega)) (Nat.le_refl _))
  replace res_f0 := (he3.frozen res_0 (by simp only; omega)).trans res_f0
  replace res_f1 := (he3.frozen res_1 (by simp only; omega)).trans res_f1
  replace aD_0 := he3.cell aD_0 (by simp only; omega)
  replace aD_1 := he3.cell aD_1 (by simp only; omega)
  replace res_0 := he3.cell res_0 (by simp only; omega)
  replace res_1 := he3.cell res_1 (by simp only; omega)
  replace aD_l := Nat.lt_of_lt_of_le aD_l hz3
  replace res_l := Nat.lt_of_lt_of_le res_l hz3
  clear hb
  rw [hok]
  go_wp2_with fail
  refine (impl_copyDisk_any Ac nc cc cs0 Aw nw cw ws0 w3 (hrc.more (by omega)) (hrw.more (by omega)) hncb hnwb HLO.out).mono ?_
  rintro e w4 ⟨A1, n1, c1, A2, n2, c2, cs, ws, rfl, qd1, qd2, ⟨m, hC, hD⟩, hb⟩
  have he4 : Eff 0 0 w3 w4 := Eff.of hb
  have hz4 : w3.heap.size ≤ w4.heap.size := he4.size
  have b4 : Below W.heap.size W w4 := b3.trans (he4.below b3.size (by omega))
  replace h := (h.below (he4.below (B := W.heap.size) (by omega) (by omega)) (Nat.le_refl _))
  replace hrc := (hrc.below (he4.below (B := W.heap.size) (by omega) (by omega)) (Nat.le_refl _))
  replace hrw := (hrw.below (he4.below (B := W.heap.size) (by omega) (by omega)) (Nat.le_refl _))
  replace res_f0 := (he4.frozen res_0 (by simp only; omega)).trans res_f0
  replace res_f1 := (he4.frozen res_1 (by simp only; omega)).trans res_f1
  replace aD_0 := he4.cell aD_0 (by simp only; omega)
  replace aD_1 := he4.cell aD_1 (by simp only; omega)
  replace res_0 := he4.cell res_0 (by simp only; omega)
  replace res_1 := he4.cell res_1 (by simp only; omega)
  replace aD_l := Nat.lt_of_lt_of_le aD_l hz4
  replace res_l := Nat.lt_of_lt_of_le res_l hz4
  clear hb
  have QD := Lib.hid (qd1.trans HDC.out)
  have QE := Lib.hid (qd2.trans HDW.out)
  clear qd1 qd2
  obtain rfl : nc = n1 := by rw [← HLC.out, ← QD.out, List.length_map, hC.len Ce.hf (by omega)]
  obtain rfl : nw = n2 := by rw [← HLW.out, ← QE.out, List.length_map, hD.len Wr.hf (by omega)]
  have hlo1 := hC.lohi
  have hlo2 := hD.lohi
  obtain ⟨H, hH⟩ : ∃ H, w4.heap.size = H := ⟨_, rfl⟩
  have hD0 : OwnWrite w4 m H A2 nw c2 ws := by rw [← hH]; exact hD
  clear hD
  have hD := hD0
  clear hD0
  have hlo3 : m ≤ H := by omega
  obtain ⟨gb, hA1, hgb1, hgb2⟩ : ∃ gb, A1 = some ⟨gb, 0, none⟩ ∧ w3.heap.size ≤ gb ∧ gb < m := by
    obtain ⟨gb, _, hA, h1, h2, _⟩ := hC.outs Ce.hf (by omega) (i := 0) (by omega)
    exact ⟨gb, hA, h1, h2⟩
  subst hA1
  go_wp2_with fail
  have he5 : Eff 0 0 w4 (w4.alloc (.cells #[.slice (some ⟨gb, 0, none⟩) nc c1, .slice A2 nw c2] 33)) := Eff.alloc _ _
  have hs5 : (w4.alloc (.cells #[.slice (some ⟨gb, 0, none⟩) nc c1, .slice A2 nw c2] 33)).heap.size = w4.heap.size + 1 := (by simp)
  have out_0 : (w4.alloc (.cells #[.slice (some ⟨gb, 0, none⟩) nc c1, .slice A2 nw c2] 33)).cell? ⟨w4.heap.size, 0, none⟩ = some (.slice (some ⟨gb, 0, none⟩) nc c1) := var_cell _ _ _ _ _ rfl
  have out_1 : (w4.alloc (.cells #[.slice (some ⟨gb, 0, none⟩) nc c1, .slice A2 nw c2] 33)).cell? ⟨w4.heap.size, 1, none⟩ = some (.slice A2 nw c2) := var_cell _ _ _ _ _ rfl
  have out_f0 : (w4.alloc (.cells #[.slice (some ⟨gb, 0, none⟩) nc c1, .slice A2 nw c2] 33)).frozen? ⟨w4.heap.size, 0, none⟩ = false := var_frozen _ _ _ _
  have out_f1 : (w4.alloc (.cells #[.slice (some ⟨gb, 0, none⟩) nc c1, .slice A2 nw c2] 33)).frozen? ⟨w4.heap.size, 1, none⟩ = false := var_frozen _ _ _ _
  generalize (w4.alloc (.cells #[.slice (some ⟨gb, 0, none⟩) nc c1, .slice A2 nw c2] 33)) = w5 at *
  have hz5 : w4.heap.size ≤ w5.heap.size := he5.size
  have b5 : Below W.heap.size W w5 := b4.trans (he5.below b4.size (by omega))
  replace h := (h.below (he5.below (B := W.heap.size) (by omega) (by omega)) (Nat.le_refl _))
  replace hrc := (hrc.below (he5.below (B := W.heap.size) (by omega) (by omega)) (Nat.le_refl _))
  replace hrw := (hrw.below (he5.below (B := W.heap.size) (by omega) (by omega)) (Nat.le_refl _))
  replace hC := hC.keep he5 (by omega)
  replace hD := hD.keep he5 (by omega)
  replace res_f0 := (he5.frozen res_0 (by simp only; omega)).trans res_f0
  replace res_f1 := (he5.frozen res_1 (by simp only; omega)).trans res_f1
  replace aD_0 := he5.cell aD_0 (by simp only; omega)
  replace aD_1 := he5.cell aD_1 (by simp only; omega)
  replace res_0 := he5.cell res_0 (by simp only; omega)
  replace res_1 := he5.cell res_1 (by simp only; omega)
  replace aD_l := Nat.lt_of_lt_of_le aD_l hz5
  replace res_l := Nat.lt_of_lt_of_le res_l hz5
  rw [hH] at out_0 out_f0
  rw [hH] at out_1 out_f1
  have out_l : H < w5.heap.size := (by omega)
  obtain ⟨lo, hlo⟩ : ∃ lo, lo = w3.heap.size := ⟨_, rfl⟩
  rw [← hlo] at hC hgb1 hlo1
  have hOff : OffR Ce.g (some ⟨gb, 0, none⟩) nc c1 cs H := hC.off (.inl hlo3)
  replace hC := hC.wide (hi' := w5.heap.size) (Nat.le_refl _) (by omega) (Nat.le_refl _)
  have hloW : W.heap.size + 1 < lo := by omega
  have hHlo : lo ≤ H := by omega
  have hHw : H < w5.heap.size := by omega
  go_wp2
  go_loopw [15] (fun vi wr => ∃ (k : Nat) (es : List Ce), k ≤ nw ∧ vi = .int .i64 (k : Int) ∧ Below W.heap.size W wr ∧ H < wr.heap.size ∧ wr.cell? ⟨W.heap.size + 1, 0, none⟩ = some (.slice none 0 0) ∧ wr.cell? ⟨W.heap.size + 1, 1, none⟩ = some (.slice none 0 0) ∧ wr.frozen? ⟨W.heap.size + 1, 0, none⟩ = false ∧ wr.frozen? ⟨W.heap.size + 1, 1, none⟩ = false ∧ wr.cell? ⟨H, 0, none⟩ = some (.slice (some ⟨gb, 0, none⟩) nc c1) ∧ wr.cell? ⟨H, 1, none⟩ = some (.slice A2 nw c2) ∧ wr.frozen? ⟨H, 0, none⟩ = false ∧ wr.frozen? ⟨H, 1, none⟩ = false ∧ OwnCell wr lo wr.heap.size (some ⟨gb, 0, none⟩) nc c1 es ∧ OffR Ce.g (some ⟨gb, 0, none⟩) nc c1 es H ∧ OwnWrite wr m H A2 nw c2 ws ∧ Hid (es.map Ce.d = syncN dc dw k)) (fun vi _ => nw - (intOf vi).toNat)
  case atStart => exact ⟨0, cs, Nat.zero_le _, rfl, b5, hHw, res_0, res_1, res_f0, res_f1, out_0, out_1, out_f0, out_f1, hC, hOff, hD, Lib.hid QD.out⟩
  clear hC hOff hD res_0 res_1 res_f0 res_f1 out_0 out_1 out_f0 out_f1
  case round =>
    obtain ⟨k, es, hk, rfl, hb, hHw, res_0, res_1, res_f0, res_f1, out_0, out_1, out_f0, out_f1, hC, hOff, hD, HS⟩ := hrel
    by_cases hlt : k < nw
    · skip
      obtain ⟨b, off, ⟨px, Ax, nx, cx, lx⟩, rfl, hbB, hx, hcell, hi, hcap⟩ := (hD.rd (Nat.le_refl H)).elem Wr.hf (by omega) hlt
      have cc0 : wr.cell? ⟨b, off + k * 2, none⟩ = some (.int .i64 px) := by have := hcell 0 _ rfl; simpa [Nat.add_assoc] using this
      have cc1 : wr.cell? ⟨b, off + k * 2 + 1, none⟩ = some (.slice Ax nx cx) := by have := hcell 1 _ rfl; simpa [Nat.add_assoc] using this
      have HX : Hid (dw[k]? = some (px, lx)) := Lib.hid (by rw [← QE.out, List.getElem?_map, hx]; rfl)
      replace hi : Rd wr H 1 Ax nx (Lib.byteCells lx) := hi
      have hlx : lx.length = nx := len_of_rd hi
      have hok1 := HOK.out _ (List.mem_of_getElem? HX.out)
      simp only at hok1
      rw [HLC.out] at hok1
      obtain ⟨hp0, hp1, hl8⟩ := hok1
      obtain ⟨q, rfl⟩ : ∃ q : Nat, px = q := ⟨px.toNat, by omega⟩
      have hnx : nx = 128 := by omega
      have hq : q < nc := by omega
      clear hcell hcap hx hlx hl8
      subst hnx
      obtain ⟨Aq, mq, cq, lq, hxq, e_0, e_f0, hrq, -, -⟩ := cell_outs hC hq
      have HXQ := Lib.hid hxq
      clear hxq hrq
      go_wp2_with fail
      have he1 : Eff 0 0 wr (wr.alloc (.cells #[.int .i64 (q : Int), .slice Ax 128 cx] 74)) := Eff.alloc _ _
      have hs1 : (wr.alloc (.cells #[.int .i64 (q : Int), .slice Ax 128 cx] 74)).heap.size = wr.heap.size + 1 := (by simp)
      have x_0 : (wr.alloc (.cells #[.int .i64 (q : Int), .slice Ax 128 cx] 74)).cell? ⟨wr.heap.size, 0, none⟩ = some (.int .i64 (q : Int)) := var_cell _ _ _ _ _ rfl
      have x_1 : (wr.alloc (.cells #[.int .i64 (q : Int), .slice Ax 128 cx] 74)).cell? ⟨wr.heap.size, 1, none⟩ = some (.slice Ax 128 cx) := var_cell _ _ _ _ _ rfl
      generalize (wr.alloc (.cells #[.int .i64 (q : Int), .slice Ax 128 cx] 74)) = v1 at *
      have hz1 : wr.heap.size ≤ v1.heap.size := he1.size
      have b1 : Below W.heap.size W v1 := hb.trans (he1.below hb.size (by omega))
      replace hC := hC.keep he1 (by omega)
      replace hD := hD.keep he1 (by omega)
      replace res_f0 := (he1.frozen res_0 (by simp only; omega)).trans res_f0
      replace res_f1 := (he1.frozen res_1 (by simp only; omega)).trans res_f1
      replace out_f0 := (he1.frozen out_0 (by simp only; omega)).trans out_f0
      replace out_f1 := (he1.frozen out_1 (by simp only; omega)).trans out_f1
      replace e_f0 := (he1.frozen e_0 (by simp only; omega)).trans e_f0
      replace res_0 := he1.cell res_0 (by simp only; omega)
      replace res_1 := he1.cell res_1 (by simp only; omega)
      replace out_0 := he1.cell out_0 (by simp only; omega)
      replace out_1 := he1.cell out_1 (by simp only; omega)
      replace e_0 := he1.cell e_0 (by simp only; omega)
      have x_l : wr.heap.size < v1.heap.size := (by omega)
      clear cc0 cc1
      replace hi := hi.below (he1.below (B := H) (by omega) (by omega)) (Nat.le_refl _)
      go_wp2_with fail
      have he2 : Eff 0 0 v1 v1.drew := (Eff.refl _ _ _).drew
      have hz2 : v1.heap.size ≤ v1.drew.heap.size := he2.size
      have b2 : Below W.heap.size W v1.drew := b1.trans (he2.below b1.size (by omega))
      replace hC := hC.keep he2 (by omega)
      replace hD := hD.keep he2 (by omega)
      replace res_f0 := (he2.frozen res_0 (by simp only; omega)).trans res_f0
      replace res_f1 := (he2.frozen res_1 (by simp only; omega)).trans res_f1
      replace out_f0 := (he2.frozen out_0 (by simp only; omega)).trans out_f0
      replace out_f1 := (he2.frozen out_1 (by simp only; omega)).trans out_f1
      replace e_f0 := (he2.frozen e_0 (by simp only; omega)).trans e_f0
      replace res_0 := he2.cell res_0 (by simp only; omega)
      replace res_1 := he2.cell res_1 (by simp only; omega)
      replace out_0 := he2.cell out_0 (by simp only; omega)
      replace out_1 := he2.cell out_1 (by simp only; omega)
      replace e_0 := he2.cell e_0 (by simp only; omega)
      replace x_0 := he2.cell x_0 (by simp only; omega)
      replace x_1 := he2.cell x_1 (by simp only; omega)
      replace x_l := Nat.lt_of_lt_of_le x_l hz2
      replace hi := hi.below (he2.below (B := H) (by omega) (by omega)) (Nat.le_refl _)
      refine wp_region_held_drew (S := fun w' => w'.cell? ⟨H, 0, none⟩ = some (.slice (some ⟨gb, 0, none⟩) nc c1) ∧ w'.cell? ⟨wr.heap.size, 0, none⟩ = some (.int .i64 (q : Int)) ∧ w'.cell? ⟨wr.heap.size, 1, none⟩ = some (.slice Ax 128 cx)) (by kernel_rfl) ?rg1 (fun hHeld => ?_)
      case rg1 => ((try dsimp only); (go_split_ands; (repeat' apply And.intro) <;> (first | assumption | exact set2_other (by assumption) _ (by omega))))
      generalize v1.drew = v0 at *
      refine wpAnyH_take (i := 0) (oi := { dst := some 19, op := Go.Op.fieldAddr 33 (Go.Operand.tmp 3) 0, type := 0, pos := "l03_disk.go:194", after := #[], guard := none }) (v := ?v2) rfl (by kernel_rfl) (by kernel_rfl) (by kernel_rfl) (fun _ _ _ h => h) (Or.inl ⟨by rfl, ?y2⟩) (by assumption) ?_
      case y2 => (intro w hSw; (try dsimp only at hSw); go_simp; first | done | with_reducible rfl)
      try simp only [Act.put, List.setIfInBounds_toArray, List.set_cons_zero, List.set_cons_succ]
      refine wpAnyH_take (i := 1) (oi := { dst := some 20, op := Go.Op.load 30 (Go.Operand.tmp 19), type := 30, pos := "l03_disk.go:194", after := #[{ on := 0, ground := Go.Ground.data }], guard := none }) (v := ?v3) rfl (by kernel_rfl) (by kernel_rfl) (by kernel_rfl) (fun _ _ _ h => h) (Or.inl ⟨by rfl, ?y3⟩) (by assumption) ?_
      case y3 => (intro w hSw; (try dsimp only at hSw); go_simp; first | done | with_reducible rfl)
      try simp only [Act.put, List.setIfInBounds_toArray, List.set_cons_zero, List.set_cons_succ]
      refine wpAnyH_take (i := 2) (oi := { dst := some 21, op := Go.Op.fieldAddr 74 (Go.Operand.tmp 5) 0, type := 0, pos := "l03_disk.go:194", after := #[], guard := none }) (v := ?v4) rfl (by kernel_rfl) (by kernel_rfl) (by kernel_rfl) (fun _ _ _ h => h) (Or.inl ⟨by rfl, ?y4⟩) (by assumption) ?_
      case y4 => (intro w hSw; (try dsimp only at hSw); go_simp; first | done | with_reducible rfl)
      try simp only [Act.put, List.setIfInBounds_toArray, List.set_cons_zero, List.set_cons_succ]
      refine wpAnyH_take (i := 3) (oi := { dst := some 22, op := Go.Op.load 3 (Go.Operand.tmp 21), type := 3, pos := "l03_disk.go:194", after := #[{ on := 2, ground := Go.Ground.data }], guard := none }) (v := ?v5) rfl (by kernel_rfl) (by kernel_rfl) (by kernel_rfl) (fun _ _ _ h => h) (Or.inl ⟨by rfl, ?y5⟩) (by assumption) ?_
      case y5 => (intro w hSw; (try dsimp only at hSw); go_simp; first | done | with_reducible rfl)
      try simp only [Act.put, List.setIfInBounds_toArray, List.set_cons_zero, List.set_cons_succ]
      refine wpAnyH_take (i := 4) (oi := { dst := some 23, op := Go.Op.fieldAddr 74 (Go.Operand.tmp 5) 1, type := 0, pos := "l03_disk.go:194", after := #[], guard := none }) (v := ?v6) rfl (by kernel_rfl) (by kernel_rfl) (by kernel_rfl) (fun _ _ _ h => h) (Or.inl ⟨by rfl, ?y6⟩) (by assumption) ?_
      case y6 => (intro w hSw; (try dsimp only at hSw); go_simp; first | done | with_reducible rfl)
      try simp only [Act.put, List.setIfInBounds_toArray, List.set_cons_zero, List.set_cons_succ]
      refine wpAnyH_take (i := 5) (oi := { dst := some 24, op := Go.Op.load 27 (Go.Operand.tmp 23), type := 27, pos := "l03_disk.go:194", after := #[{ on := 4, ground := Go.Ground.data }], guard := none }) (v := ?v7) rfl (by kernel_rfl) (by kernel_rfl) (by kernel_rfl) (fun _ _ _ h => h) (Or.inl ⟨by rfl, ?y7⟩) (by assumption) ?_
      case y7 => (intro w hSw; (try dsimp only at hSw); go_simp; first | done | with_reducible rfl)
      try simp only [Act.put, List.setIfInBounds_toArray, List.set_cons_zero, List.set_cons_succ]
      refine wpAnyH_ready (rs := [6]) (by kernel_rfl) (by simp) ?_
      refine AllReadyH.cons (o := { dst := some 25, op := Go.Op.call { callee := Go.Callee.value (Go.Operand.func 61), args := #[Go.Operand.tmp 24], argTypes := #[27] }, type := 27, pos := "l03_disk.go:194", after := #[{ on := 5, ground := Go.Ground.data }], guard := none }) rfl (fun K hK => ?k8) AllReadyH.nil
      go_simp
      go_at_call 61
      refine (copyBytes_any Ax 128 cx lx v0 (hi.more (by omega)) (by omega)).mono ?_
      rintro e v3 ⟨Ay, cy, rfl, y, hb⟩
      have he3 : Eff 0 0 v0 v3 := Eff.of hb
      have hz3 : v0.heap.size ≤ v3.heap.size := he3.size
      have b3 : Below W.heap.size W v3 := b2.trans (he3.below b2.size (by omega))
      replace hD := hD.keep he3 (by omega)
      replace res_f0 := (he3.frozen res_0 (by simp only; omega)).trans res_f0
      replace res_f1 := (he3.frozen res_1 (by simp only; omega)).trans res_f1
      replace out_f0 := (he3.frozen out_0 (by simp only; omega)).trans out_f0
      replace out_f1 := (he3.frozen out_1 (by simp only; omega)).trans out_f1
      replace e_f0 := (he3.frozen e_0 (by simp only; omega)).trans e_f0
      replace res_0 := he3.cell res_0 (by simp only; omega)
      replace res_1 := he3.cell res_1 (by simp only; omega)
      replace out_0 := he3.cell out_0 (by simp only; omega)
      replace out_1 := he3.cell out_1 (by simp only; omega)
      replace e_0 := he3.cell e_0 (by simp only; omega)
      replace x_0 := he3.cell x_0 (by simp only; omega)
      replace x_1 := he3.cell x_1 (by simp only; omega)
      replace x_l := Nat.lt_of_lt_of_le x_l hz3
      clear hb
      have hey : Eff 0 0 v0 v3 := he3
      refine hK.out _ _ ?s8 (fun hHeld => ?_)
      case s8 => ((try dsimp only); (go_split_ands; (repeat' apply And.intro) <;> (first | assumption | exact set2_other (by assumption) _ (by omega))))
      clear hK K
      try simp only [Act.put, List.setIfInBounds_toArray, List.set_cons_zero, List.set_cons_succ]
      refine wpAnyH_take (i := 7) (oi := { dst := some 26, op := Go.Op.indexAddr 30 (Go.Operand.tmp 20) (Go.Operand.tmp 22), type := 0, pos := "l03_disk.go:194", after := #[{ on := 1, ground := Go.Ground.data }, { on := 3, ground := Go.Ground.data }, { on := 0, ground := Go.Ground.phase }, { on := 1, ground := Go.Ground.phase }, { on := 2, ground := Go.Ground.phase }, { on := 3, ground := Go.Ground.phase }, { on := 4, ground := Go.Ground.phase }, { on := 5, ground := Go.Ground.phase }, { on := 6, ground := Go.Ground.phase }], guard := none }) (v := ?v9) rfl (by kernel_rfl) (by kernel_rfl) (by kernel_rfl) (fun _ _ _ h => h) (Or.inl ⟨by rfl, ?y9⟩) (by assumption) ?_
      case y9 => (intro w hSw; (try dsimp only at hSw); go_simp; first | done | with_reducible rfl)
      try simp only [Act.put, List.setIfInBounds_toArray, List.set_cons_zero, List.set_cons_succ]
      refine wpAnyH_take (i := 8) (oi := { dst := some 27, op := Go.Op.fieldAddr 76 (Go.Operand.tmp 26) 0, type := 0, pos := "l03_disk.go:194", after := #[{ on := 7, ground := Go.Ground.data }, { on := 0, ground := Go.Ground.phase }, { on := 1, ground := Go.Ground.phase }, { on := 2, ground := Go.Ground.phase }, { on := 3, ground := Go.Ground.phase }, { on := 4, ground := Go.Ground.phase }, { on := 5, ground := Go.Ground.phase }, { on := 6, ground := Go.Ground.phase }], guard := none }) (v := ?v10) rfl (by kernel_rfl) (by kernel_rfl) (by kernel_rfl) (fun _ _ _ h => h) (Or.inl ⟨by rfl, ?y10⟩) (by assumption) ?_
      case y10 => (intro w hSw; (try dsimp only at hSw); go_simp; first | done | with_reducible rfl)
      try simp only [Act.put, List.setIfInBounds_toArray, List.set_cons_zero, List.set_cons_succ]
      refine wpAnyH_ready (rs := [9]) (by kernel_rfl) (by simp) ?_
      refine AllReadyH.cons (o := { dst := none, op := Go.Op.store 27 (Go.Operand.tmp 27) (Go.Operand.tmp 25), type := 0, pos := "l03_disk.go:194", after := #[{ on := 8, ground := Go.Ground.data }, { on := 6, ground := Go.Ground.data }, { on := 6, ground := Go.Ground.chain }, { on := 0, ground := Go.Ground.phase }, { on := 1, ground := Go.Ground.phase }, { on := 2, ground := Go.Ground.phase }, { on := 3, ground := Go.Ground.phase }, { on := 4, ground := Go.Ground.phase }, { on := 5, ground := Go.Ground.phase }, { on := 6, ground := Go.Ground.phase }], guard := none }) rfl (fun K hK => ?k11) AllReadyH.nil
      go_simp
      refine hK.out _ _ ?s11 (fun hHeld => ?_)
      case s11 => ((try dsimp only); (go_split_ands; (repeat' apply And.intro) <;> (first | assumption | exact set2_other (by assumption) _ (by omega))))
      clear hK K
      try simp only [Act.put]
      refine wpAnyH_done (by kernel_rfl) ?_ _
      have hest : Eff gb (gb + 1) v3 (v3.setCell ⟨gb, q, none⟩ (.slice Ay 128 cy)) := eff_set _ _ _ _
      have hC2 := hC.setNew (i := q) (y := ⟨Ay, 128, cy, lx⟩) hey y rfl hest (fun xs h1 h2 => cell_stored (y := ⟨Ay, 128, cy, lx⟩) HXQ.out h1 h2)
      have hOff2 := hOff.set (i := q) (y := (⟨Ay, 128, cy, lx⟩ : Ce)) (fun b hb => by have := (Own.lohi y b hb).1; omega)
      replace hD := hD.keep hest (by omega)
      replace res_0 := hest.cell res_0 (by simp only; omega)
      replace res_1 := hest.cell res_1 (by simp only; omega)
      replace out_0 := hest.cell out_0 (by simp only; omega)
      replace out_1 := hest.cell out_1 (by simp only; omega)
      replace res_f0 := set_frozen (p := ⟨gb, q, none⟩) res_f0 (.slice Ay 128 cy)
      replace res_f1 := set_frozen (p := ⟨gb, q, none⟩) res_f1 (.slice Ay 128 cy)
      replace out_f0 := set_frozen (p := ⟨gb, q, none⟩) out_f0 (.slice Ay 128 cy)
      replace out_f1 := set_frozen (p := ⟨gb, q, none⟩) out_f1 (.slice Ay 128 cy)
      have hbf : Below W.heap.size W (v3.setCell ⟨gb, q, none⟩ (.slice Ay 128 cy)) := b3.trans (hest.below b3.size (by omega))
      have hsst : (v3.setCell ⟨gb, q, none⟩ (.slice Ay 128 cy)).heap.size = v3.heap.size := (by simp)
      go_wp2_with fail
      go_roundw
      case rel => exact ⟨k + 1, _, by omega, by go_num, hbf, by omega, res_0, res_1, res_f0, res_f1, out_0, out_1, out_f0, out_f1, hC2, hOff2, hD, Lib.hid (by rw [List.map_set, HS.out, syncN_succ HX.out]; rfl)⟩
      case measure => simp [intOf]; omega
    · have hge : nw = k := by omega
      subst hge
      go_wp2
      refine bodyPost_ret (v := .agg #[.slice (some ⟨gb, 0, none⟩) nc c1, .slice none 0 0]) (by simp [results, Try.results25, go_sem, *]) rfl ?_
      exact madeD_cells (by rw [HS.out, ← HR.out, HLW.out]) hC hOff hb (g := W.heap.size + 1) (by omega) (by omega) (by omega)
end Go.Proofs.Ytblenfhacaecmaa
