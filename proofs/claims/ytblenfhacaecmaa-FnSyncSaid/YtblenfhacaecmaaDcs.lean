/- DiskCrash (reference). -/
import Derived.Test.YtblenfhacaecmaaDci
namespace Go.Proofs.Ytblenfhacaecmaa
open Go.RowKit
theorem tear_set {l b : List UInt8} {j : Nat} (hj : j < b.length) (hl : (fullC l).length = b.length) : (Lib.byteCells (tearC l b j)).set j (.int .u8 (b[j].toNat : Int)) = Lib.byteCells (tearC l b (j + 1)) := by
  have h1 : (fullC l).drop j = (fullC l)[j] :: (fullC l).drop (j + 1) := List.drop_eq_getElem_cons (by omega)
  have h2 : b.take (j + 1) = b.take j ++ [b[j]] := by rw [List.take_succ_eq_append_getElem hj]
  unfold tearC Lib.byteCells
  rw [h2, h1]
  simp only [List.map_append, List.map_cons, List.map_nil]
  rw [List.set_append_right _ _ (by simp; omega)]
  simp [Nat.min_eq_left (Nat.le_of_lt hj)]
theorem own_tearS {w : World} {a b c j gy : Nat} {l x : List UInt8} {hj : j < x.length} (hf : (fullC l).length = 128) (hx : x.length = 128) (h : OwnB w a b (some ⟨gy, 0, none⟩) 128 c (tearC l x j)) : OwnB (w.setCell ⟨gy, j, none⟩ (.int .u8 (x[j].toNat : Int))) a b (some ⟨gy, 0, none⟩) 128 c (tearC l x (j + 1)) := by
  have := (Own.stored h j (.int .u8 (x[j].toNat : Int))).1
  rw [tear_set hj (hf.trans hx.symm)] at this
  exact this
theorem madeD_cellsS {g n1 c1 lo : Nat} {W w : World} {A1 : Option Addr} {cs : List Ce} {dc : List (List UInt8)} {v0 v1 : Value} (hd1 : cs.map Ce.d = dc) (t1 : OwnCell w lo w.heap.size A1 n1 c1 cs) (hb : Below W.heap.size W w) (h2 : W.heap.size ≤ g) (h4 : g < lo) :
    MadeD dc [] W (.returned (.agg #[.slice A1 n1 c1, .slice none 0 0])) ((w.setCell ⟨g, 0, none⟩ v0).setCell ⟨g, 1, none⟩ v1) := by
  have e : Eff g (g + 1) w ((w.setCell ⟨g, 0, none⟩ v0).setCell ⟨g, 1, none⟩ v1) := eff_two
  have hs : ((w.setCell ⟨g, 0, none⟩ v0).setCell ⟨g, 1, none⟩ v1).heap.size = w.heap.size := by simp
  have l1 := t1.lohi
  have k1 := t1.keep e (.inr (.inl (by omega)))
  exact MadeDk.d ⟨A1, n1, c1, none, 0, 0, cs, [], rfl, hd1, rfl, ⟨w.heap.size, k1.wide (by omega) (Nat.le_refl _) (by omega), OwnR.nil (by omega) (by omega)⟩, ((hb.setCell h2 _).setCell h2 _)⟩
set_option maxHeartbeats 4000000 in
set_option maxRecDepth 100000 in
theorem spec_DiskCrash_d (Ac : Option Addr) (nc cc : Nat) (Aw : Option Addr) (nw cw : Nat) (dc : List (List UInt8)) (dw : List (Int × List UInt8)) (Ak : Option Addr) (nk ck : Nat) (ks : List Int) (W : World) (h : RdDk W W.heap.size Ac nc Aw nw dc dw) (LB : lenB dc dw) (hk : Rd W W.heap.size 1 Ak nk (ks.map (Value.int .i64))) (hkb : nk ≤ 1048576) :
    Calls Try.prog 32 #[.agg #[.slice Ac nc cc, .slice Aw nw cw], .slice Ak nk ck] W (MadeD (if dkOk dc dw then crashN dc dw ks dw.length else []) [] W) := by
  have hlc := h.len.1
  have hlw := h.len.2
  have hncb : nc ≤ 1048576 := by have := LB.1; omega
  have hnwb : nw ≤ 1048576 := by have := LB.2.1; omega
  have HLC := Lib.hid hlc
  have HLW := Lib.hid hlw
  clear hlc hlw
  obtain ⟨u0, hu0, hv0, hv1, hv2⟩ := info_parts info_u8
  obtain ⟨cs0, ws0, hrc, hrw, hdc, hdw⟩ := h
  have HDC := Lib.hid hdc
  have HDW := Lib.hid hdw
  have h : RdDk W W.heap.size Ac nc Aw nw dc dw := ⟨cs0, ws0, hrc, hrw, hdc, hdw⟩
  have hlo : lenOk cs0 ws0 := ⟨fun x hx => by have := ce_len hrc (m := 1048576) (by rw [hdc]; exact LB.2.2.1) x hx; omega, fun x hx => by have := wr_len hrw (m := 1048576) (by rw [hdw]; exact LB.2.2.2) x hx; omega⟩
  have HLO := Lib.hid hlo
  have HLB := Lib.hid LB
  clear hlo hdc hdw LB
  have hk0 := Lib.hid hk
  have hrw0 := Lib.hid hrw
  rcases hok : dkOk dc dw with _ | _
  · simp only [Bool.false_eq_true, if_false]
    go_enter Try.func32, Try.ntmps32
    go_wp2_with fail
    have he1 : Eff 0 0 W (W.alloc (.cells #[.slice Ac nc cc, .slice Aw nw cw] 33)) := Eff.alloc _ _
    have hs1 : (W.alloc (.cells #[.slice Ac nc cc, .slice Aw nw cw] 33)).heap.size = W.heap.size + 1 := (by simp)
    have aD_0 : (W.alloc (.cells #[.slice Ac nc cc, .slice Aw nw cw] 33)).cell? ⟨W.heap.size, 0, none⟩ = some (.slice Ac nc cc) := var_cell _ _ _ _ _ rfl
    have aD_1 : (W.alloc (.cells #[.slice Ac nc cc, .slice Aw nw cw] 33)).cell? ⟨W.heap.size, 1, none⟩ = some (.slice Aw nw cw) := var_cell _ _ _ _ _ rfl
    generalize (W.alloc (.cells #[.slice Ac nc cc, .slice Aw nw cw] 33)) = w1 at *
    have hz1 : W.heap.size ≤ w1.heap.size := he1.size
    have b1 : Below W.heap.size W w1 := he1.below (Nat.le_refl _) (by omega)
    replace h := (h.below (he1.below (B := W.heap.size) (by omega) (by omega)) (Nat.le_refl _))
    replace hrc := (hrc.below (he1.below (B := W.heap.size) (by omega) (by omega)) (Nat.le_refl _))
    replace hrw := (hrw.below (he1.below (B := W.heap.size) (by omega) (by omega)) (Nat.le_refl _))
    have aD_l : W.heap.size < w1.heap.size := (by omega)
    have he2 : Eff 0 0 w1 (w1.alloc (.cells #[.slice none 0 0, .slice none 0 0] 33)) := Eff.alloc _ _
    have hs2 : (w1.alloc (.cells #[.slice none 0 0, .slice none 0 0] 33)).heap.size = w1.heap.size + 1 := (by simp)
    have res_0 : (w1.alloc (.cells #[.slice none 0 0, .slice none 0 0] 33)).cell? ⟨w1.heap.size, 0, none⟩ = some (.slice none 0 0) := var_cell _ _ _ _ _ rfl
    have res_1 : (w1.alloc (.cells #[.slice none 0 0, .slice none 0 0] 33)).cell? ⟨w1.heap.size, 1, none⟩ = some (.slice none 0 0) := var_cell _ _ _ _ _ rfl
    have res_f0 : (w1.alloc (.cells #[.slice none 0 0, .slice none 0 0] 33)).frozen? ⟨w1.heap.size, 0, none⟩ = false := var_frozen _ _ _ _
    have res_f1 : (w1.alloc (.cells #[.slice none 0 0, .slice none 0 0] 33)).frozen? ⟨w1.heap.size, 1, none⟩ = false := var_frozen _ _ _ _
    generalize (w1.alloc (.cells #[.slice none 0 0, .slice none 0 0] 33)) = w2 at *
    have hz2 : w1.heap.size ≤ w2.heap.size := he2.size
    have b2 : Below W.heap.size W w2 := b1.trans (he2.below b1.size (by omega))
    replace h := (h.below (he2.below (B := W.heap.size) (by omega) (by omega)) (Nat.le_refl _))
    replace hrc := (hrc.below (he2.below (B := W.heap.size) (by omega) (by omega)) (Nat.le_refl _))
    replace hrw := (hrw.below (he2.below (B := W.heap.size) (by omega) (by omega)) (Nat.le_refl _))
    replace aD_0 := he2.cell aD_0 (by simp only; omega)
    replace aD_1 := he2.cell aD_1 (by simp only; omega)
    replace aD_l := Nat.lt_of_lt_of_le aD_l hz2
    rw [hs1] at res_0 res_f0
    rw [hs1] at res_1 res_f1
    have res_l : W.heap.size + 1 < w2.heap.size := (by omega)
    refine (spec_DiskOk_d Ac nc cc Aw nw cw dc dw w2 (h.more (by omega)) HLB.out).mono ?_
    rintro e w3 ⟨rfl, hb⟩
    have he3 : Eff 0 0 w2 w3 := Eff.of hb
    have hz3 : w2.heap.size ≤ w3.heap.size := he3.size
    have b3 : Below W.heap.size W w3 := b2.trans (he3.below b2.size (by omega))
    replace h := (h.below (he3.below (B := W.heap.size) (by omega) (by omega)) (Nat.le_refl _))
    replace hrc := (hrc.below (he3.below (B := W.heap.size) (by omega) (by omega)) (Nat.le_refl _))
    replace hrw := (hrw.below (he3.below (B := W.heap.size) (by omega) (by omega)) (Nat.le_refl _))
    replace res_f0 := (he3.frozen res_0 (by simp only; omega)).trans res_f0
    replace res_f1 := (he3.frozen res_1 (by simp only; omega)).trans res_f1
    replace aD_0 := he3.cell aD_0 (by simp only; omega)
    replace aD_1 := he3.cell aD_1 (by simp only; omega)
    replace res_0 := he3.cell res_0 (by simp only; omega)
    replace res_1 := he3.cell res_1 (by simp only; omega)
    replace aD_l := Nat.lt_of_lt_of_le aD_l hz3
    replace res_l := Nat.lt_of_lt_of_le res_l hz3
    clear hb
    rw [hok]
    go_wp2
    refine bodyPost_ret (v := .agg #[.slice none 0 0, .slice none 0 0]) (by simp [results, Try.results32, go_sem, *]) rfl ?_
    exact madeD_no (b3.trans (eff_two.below b3.size (.inl (by omega))))
  simp only [if_true]
  have hnc1 : 1 ≤ nc := by have := (dkOk_iff.1 hok).1; rw [HLC.out] at this; omega
  have hkl : ks.length = nk := by have := hk.1; simpa using this
  have HKL := Lib.hid hkl
  clear hkl
  obtain ⟨R, hR⟩ : ∃ R, crashN dc dw ks dw.length = R := ⟨_, rfl⟩
  rw [hR]
  have HR := Lib.hid hR
  have HOKD := Lib.hid hok
  have HOK := Lib.hid (dkOk_iff.1 hok).2.2
  clear hR
  go_enter Try.func32, Try.ntmps32
  go_wp2_with fail
  have he1 : Eff 0 0 W (W.alloc (.cells #[.slice Ac nc cc, .slice Aw nw cw] 33)) := Eff.alloc _ _
  have hs1 : (W.alloc (.cells #[.slice Ac nc cc, .slice Aw nw cw] 33)).heap.size = W.heap.size + 1 := (by simp)
  have aD_0 : (W.alloc (.cells #[.slice Ac nc cc, .slice Aw nw cw] 33)).cell? ⟨W.heap.size, 0, none⟩ = some (.slice Ac nc cc) := var_cell _ _ _ _ _ rfl
  have aD_1 : (W.alloc (.cells #[.slice Ac nc cc, .slice Aw nw cw] 33)).cell? ⟨W.heap.size, 1, none⟩ = some (.slice Aw nw cw) := var_cell _ _ _ _ _ rfl
  generalize (W.alloc (.cells #[.slice Ac nc cc, .slice Aw nw cw] 33)) = w1 at *
  have hz1 : W.heap.size ≤ w1.heap.size := he1.size
  have b1 : Below W.heap.size W w1 := he1.below (Nat.le_refl _) (by omega)
  replace h := (h.below (he1.below (B := W.heap.size) (by omega) (by omega)) (Nat.le_refl _))
  replace hrc := (hrc.below (he1.below (B := W.heap.size) (by omega) (by omega)) (Nat.le_refl _))
  replace hrw := (hrw.below (he1.below (B := W.heap.size) (by omega) (by omega)) (Nat.le_refl _))
  replace hk := (hk.below (he1.below (B := W.heap.size) (by omega) (by omega)) (Nat.le_refl _))
  have aD_l : W.heap.size < w1.heap.size := (by omega)
  have he2 : Eff 0 0 w1 (w1.alloc (.cells #[.slice none 0 0, .slice none 0 0] 33)) := Eff.alloc _ _
  have hs2 : (w1.alloc (.cells #[.slice none 0 0, .slice none 0 0] 33)).heap.size = w1.heap.size + 1 := (by simp)
  have res_0 : (w1.alloc (.cells #[.slice none 0 0, .slice none 0 0] 33)).cell? ⟨w1.heap.size, 0, none⟩ = some (.slice none 0 0) := var_cell _ _ _ _ _ rfl
  have res_1 : (w1.alloc (.cells #[.slice none 0 0, .slice none 0 0] 33)).cell? ⟨w1.heap.size, 1, none⟩ = some (.slice none 0 0) := var_cell _ _ _ _ _ rfl
  have res_f0 : (w1.alloc (.cells #[.slice none 0 0, .slice none 0 0] 33)).frozen? ⟨w1.heap.size, 0, none⟩ = false := var_frozen _ _ _ _
  have res_f1 : (w1.alloc (.cells #[.slice none 0 0, .slice none 0 0] 33)).frozen? ⟨w1.heap.size, 1, none⟩ = false := var_frozen _ _ _ _
  generalize (w1.alloc (.cells #[.slice none 0 0, .slice none 0 0] 33)) = w2 at *
  have hz2 : w1.heap.size ≤ w2.heap.size := he2.size
  have b2 : Below W.heap.size W w2 := b1.trans (he2.below b1.size (by omega))
  replace h := (h.below (he2.below (B := W.heap.size) (by omega) (by omega)) (Nat.le_refl _))
  replace hrc := (hrc.below (he2.below (B := W.heap.size) (by omega) (by omega)) (Nat.le_refl _))
  replace hrw := (hrw.below (he2.below (B := W.heap.size) (by omega) (by omega)) (Nat.le_refl _))
  replace hk := (hk.below (he2.below (B := W.heap.size) (by omega) (by omega)) (Nat.le_refl _))
  replace aD_0 := he2.cell aD_0 (by simp only; omega)
  replace aD_1 := he2.cell aD_1 (by simp only; omega)
  replace aD_l := Nat.lt_of_lt_of_le aD_l hz2
  rw [hs1] at res_0 res_f0
  rw [hs1] at res_1 res_f1
  have res_l : W.heap.size + 1 < w2.heap.size := (by omega)
  refine (spec_DiskOk_d Ac nc cc Aw nw cw dc dw w2 (h.more (by omega)) HLB.out).mono ?_
  rintro e w3 ⟨rfl, hb⟩
  have he3 : Eff 0 0 w2 w3 := Eff.of hb
  have hz3 : w2.heap.size ≤ w3.heap.size := he3.size
  have b3 : Below W.heap.size W w3 := b2.trans (he3.below b2.size (by omega))
  replace h := (h.below (he3.below (B := W.heap.size) (by omega) (by omega)) (Nat.le_refl _))
  replace hrc := (hrc.below (he3.below (B := W.heap.size) (by omega) (by omega)) (Nat.le_refl _))
  replace hrw := (hrw.below (he3.below (B := W.heap.size) (by omega) (by omega)) (Nat.le_refl _))
  replace hk := (hk.below (he3.below (B := W.heap.size) (by omega) (by omega)) (Nat.le_refl _))
  replace res_f0 := (he3.frozen res_0 (by simp only; omega)).trans res_f0
  replace res_f1 := (he3.frozen res_1 (by simp only; omega)).trans res_f1
  replace aD_0 := he3.cell aD_0 (by simp only; omega)
  replace aD_1 := he3.cell aD_1 (by simp only; omega)
  replace res_0 := he3.cell res_0 (by simp only; omega)
  replace res_1 := he3.cell res_1 (by simp only; omega)
  replace aD_l := Nat.lt_of_lt_of_le aD_l hz3
  replace res_l := Nat.lt_of_lt_of_le res_l hz3
  clear hb
  rw [hok]
  go_wp2_with fail
  refine (spec_l03Copy_any Ac nc cc cs0 Aw nw cw ws0 w3 (hrc.more (by omega)) (hrw.more (by omega)) hncb hnwb HLO.out).mono ?_
  rintro e w4 ⟨A1, n1, c1, A2, n2, c2, cs, ws, rfl, qd1, qd2, ⟨m, hC, hD⟩, hb⟩
  have he4 : Eff 0 0 w3 w4 := Eff.of hb
  have hz4 : w3.heap.size ≤ w4.heap.size := he4.size
  have b4 : Below W.heap.size W w4 := b3.trans (he4.below b3.size (by omega))
  replace h := (h.below (he4.below (B := W.heap.size) (by omega) (by omega)) (Nat.le_refl _))
  replace hrc := (hrc.below (he4.below (B := W.heap.size) (by omega) (by omega)) (Nat.le_refl _))
  replace hrw := (hrw.below (he4.below (B := W.heap.size) (by omega) (by omega)) (Nat.le_refl _))
  replace hk := (hk.below (he4.below (B := W.heap.size) (by omega) (by omega)) (Nat.le_refl _))
  replace res_f0 := (he4.frozen res_0 (by simp only; omega)).trans res_f0
  replace res_f1 := (he4.frozen res_1 (by simp only; omega)).trans res_f1
  replace aD_0 := he4.cell aD_0 (by simp only; omega)
  replace aD_1 := he4.cell aD_1 (by simp only; omega)
  replace res_0 := he4.cell res_0 (by simp only; omega)
  replace res_1 := he4.cell res_1 (by simp only; omega)
  replace aD_l := Nat.lt_of_lt_of_le aD_l hz4
  replace res_l := Nat.lt_of_lt_of_le res_l hz4
  clear hb
  have QD := Lib.hid (qd1.trans HDC.out)
  have QE := Lib.hid (qd2.trans HDW.out)
  clear qd1 qd2
  obtain rfl : nc = n1 := by rw [← HLC.out, ← QD.out, List.length_map, hC.len Ce.hf (by omega)]
  obtain rfl : nw = n2 := by rw [← HLW.out, ← QE.out, List.length_map, hD.len Wr.hf (by omega)]
  have hlo1 := hC.lohi
  have hlo2 := hD.lohi
  obtain ⟨H, hH⟩ : ∃ H, w4.heap.size = H := ⟨_, rfl⟩
  have hD0 : OwnWrite w4 m H A2 nw c2 ws := by rw [← hH]; exact hD
  clear hD
  have hD := hD0
  clear hD0
  have hlo3 : m ≤ H := by omega
  obtain ⟨gb, hA1, hgb1, hgb2⟩ : ∃ gb, A1 = some ⟨gb, 0, none⟩ ∧ w3.heap.size ≤ gb ∧ gb < m := by
    obtain ⟨gb, _, hA, h1, h2, _⟩ := hC.outs Ce.hf (by omega) (i := 0) (by omega)
    exact ⟨gb, hA, h1, h2⟩
  subst hA1
  have aD_0P := (Eff.alloc w4 (.cells #[.slice (some ⟨gb, 0, none⟩) nc c1, .slice none 0 0] 33)).cell aD_0 (.inr (Nat.zero_le _))
  have aD_1P := (Eff.alloc w4 (.cells #[.slice (some ⟨gb, 0, none⟩) nc c1, .slice none 0 0] 33)).cell aD_1 (.inr (Nat.zero_le _))
  go_wp2_with fail
  have he5 : Eff 0 0 w4 (w4.alloc (.cells #[.slice (some ⟨gb, 0, none⟩) nc c1, .slice none 0 0] 33)) := Eff.alloc _ _
  have hs5 : (w4.alloc (.cells #[.slice (some ⟨gb, 0, none⟩) nc c1, .slice none 0 0] 33)).heap.size = w4.heap.size + 1 := (by simp)
  have out_0 : (w4.alloc (.cells #[.slice (some ⟨gb, 0, none⟩) nc c1, .slice none 0 0] 33)).cell? ⟨w4.heap.size, 0, none⟩ = some (.slice (some ⟨gb, 0, none⟩) nc c1) := var_cell _ _ _ _ _ rfl
  have out_1 : (w4.alloc (.cells #[.slice (some ⟨gb, 0, none⟩) nc c1, .slice none 0 0] 33)).cell? ⟨w4.heap.size, 1, none⟩ = some (.slice none 0 0) := var_cell _ _ _ _ _ rfl
  have out_f0 : (w4.alloc (.cells #[.slice (some ⟨gb, 0, none⟩) nc c1, .slice none 0 0] 33)).frozen? ⟨w4.heap.size, 0, none⟩ = false := var_frozen _ _ _ _
  have out_f1 : (w4.alloc (.cells #[.slice (some ⟨gb, 0, none⟩) nc c1, .slice none 0 0] 33)).frozen? ⟨w4.heap.size, 1, none⟩ = false := var_frozen _ _ _ _
  generalize (w4.alloc (.cells #[.slice (some ⟨gb, 0, none⟩) nc c1, .slice none 0 0] 33)) = w5 at *
  have hz5 : w4.heap.size ≤ w5.heap.size := he5.size
  have b5 : Below W.heap.size W w5 := b4.trans (he5.below b4.size (by omega))
  replace h := (h.below (he5.below (B := W.heap.size) (by omega) (by omega)) (Nat.le_refl _))
  replace hrc := (hrc.below (he5.below (B := W.heap.size) (by omega) (by omega)) (Nat.le_refl _))
  replace hrw := (hrw.below (he5.below (B := W.heap.size) (by omega) (by omega)) (Nat.le_refl _))
  replace hk := (hk.below (he5.below (B := W.heap.size) (by omega) (by omega)) (Nat.le_refl _))
  replace hC := hC.keep he5 (by omega)
  replace hD := hD.keep he5 (by omega)
  replace res_f0 := (he5.frozen res_0 (by simp only; omega)).trans res_f0
  replace res_f1 := (he5.frozen res_1 (by simp only; omega)).trans res_f1
  replace aD_0 := he5.cell aD_0 (by simp only; omega)
  replace aD_1 := he5.cell aD_1 (by simp only; omega)
  replace res_0 := he5.cell res_0 (by simp only; omega)
  replace res_1 := he5.cell res_1 (by simp only; omega)
  replace aD_l := Nat.lt_of_lt_of_le aD_l hz5
  replace res_l := Nat.lt_of_lt_of_le res_l hz5
  rw [hH] at out_0 out_f0
  rw [hH] at out_1 out_f1
  have out_l : H < w5.heap.size := (by omega)
  clear aD_0P aD_1P
  obtain ⟨lo, hlo⟩ : ∃ lo, lo = w3.heap.size := ⟨_, rfl⟩
  rw [← hlo] at hC hgb1 hlo1
  have hOff : OffR Ce.g (some ⟨gb, 0, none⟩) nc c1 cs H := hC.off (.inl hlo3)
  replace hC := hC.wide (hi' := w5.heap.size) (Nat.le_refl _) (by omega) (Nat.le_refl _)
  have hloW : W.heap.size + 1 < lo := by omega
  have hHlo : lo ≤ H := by omega
  have hHw : H < w5.heap.size := by omega
  go_wp2
  go_loopw [21] (fun vi wr => ∃ (k : Nat) (es : List Ce), k ≤ nw ∧ vi = .int .i64 (k : Int) ∧ Below W.heap.size W wr ∧ H < wr.heap.size ∧ wr.cell? ⟨W.heap.size + 1, 0, none⟩ = some (.slice none 0 0) ∧ wr.cell? ⟨W.heap.size + 1, 1, none⟩ = some (.slice none 0 0) ∧ wr.frozen? ⟨W.heap.size + 1, 0, none⟩ = false ∧ wr.frozen? ⟨W.heap.size + 1, 1, none⟩ = false ∧ wr.cell? ⟨H, 0, none⟩ = some (.slice (some ⟨gb, 0, none⟩) nc c1) ∧ wr.cell? ⟨H, 1, none⟩ = some (.slice none 0 0) ∧ wr.frozen? ⟨H, 0, none⟩ = false ∧ wr.frozen? ⟨H, 1, none⟩ = false ∧ OwnCell wr lo wr.heap.size (some ⟨gb, 0, none⟩) nc c1 es ∧ OffR Ce.g (some ⟨gb, 0, none⟩) nc c1 es H ∧ Hid (es.map Ce.d = crashN dc dw ks k)) (fun vi _ => nw - (intOf vi).toNat)
  case atStart => exact ⟨0, cs, Nat.zero_le _, rfl, b5, hHw, res_0, res_1, res_f0, res_f1, out_0, out_1, out_f0, out_f1, hC, hOff, Lib.hid QD.out⟩
  clear hC hOff res_0 res_1 res_f0 res_f1 out_0 out_1 out_f0 out_f1
  case round =>
    obtain ⟨k, es, hkk, rfl, hb, hHw, res_0, res_1, res_f0, res_f1, out_0, out_1, out_f0, out_f1, hC, hOff, HS⟩ := hrel
    replace hk := hk0.out.below hb (Nat.le_refl _)
    by_cases hlt : k < nw
    · skip
      obtain ⟨b, off, ⟨px, Ax, nx, cx, lx⟩, rfl, hbB, hx, hcell, hi, hcap⟩ := (hrw0.out.below hb (Nat.le_refl _)).elem Wr.hf (by omega) hlt
      have cc0 : wr.cell? ⟨b, off + k * 2, none⟩ = some (.int .i64 px) := by have := hcell 0 _ rfl; simpa [Nat.add_assoc] using this
      have cc1 : wr.cell? ⟨b, off + k * 2 + 1, none⟩ = some (.slice Ax nx cx) := by have := hcell 1 _ rfl; simpa [Nat.add_assoc] using this
      have HX : Hid (dw[k]? = some (px, lx)) := Lib.hid (by rw [← HDW.out, List.getElem?_map, hx]; rfl)
      replace hi : Rd wr W.heap.size 1 Ax nx (Lib.byteCells lx) := hi
      have hlx : lx.length = nx := len_of_rd hi
      have hok1 := HOK.out _ (List.mem_of_getElem? HX.out)
      simp only at hok1
      rw [HLC.out] at hok1
      obtain ⟨hp0, hp1, hl8⟩ := hok1
      obtain ⟨q, rfl⟩ : ∃ q : Nat, px = q := ⟨px.toNat, by omega⟩
      have hnx : nx = 128 := by omega
      have hq : q < nc := by omega
      have hcx : 128 ≤ cx ∧ cx ≤ maxLen := ⟨hnx ▸ hcap.1, hcap.2⟩
      obtain ⟨hcx, hcm⟩ := hcx
      unfold maxLen at hcm
      clear hcell hcap hx hl8
      have HLX := Lib.hid hlx
      clear hlx
      subst hnx
      obtain ⟨Aq, mq, cq, lq, hxq, e_0, e_f0, hrq, hmc, hmm⟩ := cell_outs hC hq
      have hlq : lq.length = 0 ∨ lq.length = 128 := crashN_at (ks := ks) HOKD.out k (i := q) (by rw [← HS.out, List.getElem?_map, hxq]; rfl)
      have hmq : lq.length = mq := len_of_rd hrq
      have hfq : (fullC lq).length = 128 := fullC_len hlq
      have HFQ := Lib.hid hfq
      have hmq1 : mq ≤ 128 := by omega
      have HXQ := Lib.hid hxq
      have hgbH : gb < H ∨ H < gb := by have := hOff.1 gb rfl; omega
      have hC0 := hC
      clear hxq hlq hmq hfq hmm hmc hC
      by_cases hkn : k < nk
      · skip
        obtain ⟨bk, offk, z, rfl, hbk, hzk, ck_0⟩ := ints_cell hk hkn
        have HZ := Lib.hid hzk
        clear hzk
        clear hk
        have kz0 : (0 : Int) ≤ (k : Int) := by omega
        have kz1 : (k : Int) < (nk : Int) := by omega
        by_cases hz1 : z < 1
        · skip
          have HKP : Hid (kp ks k = 0) := Lib.hid (by rw [kp_some HZ.out]; exact clampK_zero hz1)
          have ckP := (Eff.alloc wr (.cells #[.int .i64 (q : Int), .slice Ax 128 cx] 74)).cell ck_0 (.inr (Nat.zero_le _))
          have e0P := (Eff.alloc wr (.cells #[.int .i64 (q : Int), .slice Ax 128 cx] 74)).cell e_0 (.inr (Nat.zero_le _))
          go_wp2_with fail
          have he1 : Eff 0 0 wr (wr.alloc (.cells #[.int .i64 (q : Int), .slice Ax 128 cx] 74)) := Eff.alloc _ _
          have hs1 : (wr.alloc (.cells #[.int .i64 (q : Int), .slice Ax 128 cx] 74)).heap.size = wr.heap.size + 1 := (by simp)
          have x_0 : (wr.alloc (.cells #[.int .i64 (q : Int), .slice Ax 128 cx] 74)).cell? ⟨wr.heap.size, 0, none⟩ = some (.int .i64 (q : Int)) := var_cell _ _ _ _ _ rfl
          have x_1 : (wr.alloc (.cells #[.int .i64 (q : Int), .slice Ax 128 cx] 74)).cell? ⟨wr.heap.size, 1, none⟩ = some (.slice Ax 128 cx) := var_cell _ _ _ _ _ rfl
          generalize (wr.alloc (.cells #[.int .i64 (q : Int), .slice Ax 128 cx] 74)) = v1 at *
          have hz1 : wr.heap.size ≤ v1.heap.size := he1.size
          have b1 : Below W.heap.size W v1 := hb.trans (he1.below hb.size (by omega))
          replace res_f0 := (he1.frozen res_0 (by simp only; omega)).trans res_f0
          replace res_f1 := (he1.frozen res_1 (by simp only; omega)).trans res_f1
          replace out_f0 := (he1.frozen out_0 (by simp only; omega)).trans out_f0
          replace out_f1 := (he1.frozen out_1 (by simp only; omega)).trans out_f1
          replace e_f0 := (he1.frozen e_0 (by simp only; omega)).trans e_f0
          replace res_0 := he1.cell res_0 (by simp only; omega)
          replace res_1 := he1.cell res_1 (by simp only; omega)
          replace out_0 := he1.cell out_0 (by simp only; omega)
          replace out_1 := he1.cell out_1 (by simp only; omega)
          replace e_0 := he1.cell e_0 (by simp only; omega)
          have x_l : wr.heap.size < v1.heap.size := (by omega)
          clear cc0 cc1 ckP e0P
          replace hi := hi.below (he1.below (B := W.heap.size) (by omega) (by omega)) (Nat.le_refl _)
          replace hrq := hrq.below (he1.below (B := wr.heap.size) (by omega) (by omega)) (Nat.le_refl _)
          have hE1 : Eff 0 0 wr v1 := he1
          have hC2 : OwnCell v1 lo v1.heap.size (some ⟨gb, 0, none⟩) nc c1 es := (hC0.keep hE1 (by omega)).wide (Nat.le_refl _) (by omega) (Nat.le_refl _)
          have hHw2 : H < v1.heap.size := by omega
          go_roundw
          case rel => exact ⟨k + 1, es, by omega, by go_num, b1, hHw2, res_0, res_1, res_f0, res_f1, out_0, out_1, out_f0, out_f1, hC2, hOff, Lib.hid (by rw [HS.out, crashN_succ HX.out, HKP.out, keepC_zero])⟩
          case measure => simp [intOf]; omega
        · skip
          obtain ⟨m1, hm1⟩ : ∃ m1, clampK z = m1 := ⟨_, rfl⟩
          have hm1p : 1 ≤ m1 := by rw [← hm1]; exact clampK_pos (by omega)
          have hm1l : m1 ≤ 128 := by rw [← hm1]; exact clampK_le z
          have HKP : Hid (kp ks k = m1) := Lib.hid (by rw [kp_some HZ.out]; exact hm1)
          have hzm : (m1 : Int) = if 128 < z then 128 else z := by rw [← hm1]; unfold clampK; rw [if_neg (by omega)]; split <;> omega
          clear hm1
          have ckP := (Eff.alloc wr (.cells #[.int .i64 (q : Int), .slice Ax 128 cx] 74)).cell ck_0 (.inr (Nat.zero_le _))
          have e0P := (Eff.alloc wr (.cells #[.int .i64 (q : Int), .slice Ax 128 cx] 74)).cell e_0 (.inr (Nat.zero_le _))
          go_wp2_with fail
          have he1 : Eff 0 0 wr (wr.alloc (.cells #[.int .i64 (q : Int), .slice Ax 128 cx] 74)) := Eff.alloc _ _
          have hs1 : (wr.alloc (.cells #[.int .i64 (q : Int), .slice Ax 128 cx] 74)).heap.size = wr.heap.size + 1 := (by simp)
          have x_0 : (wr.alloc (.cells #[.int .i64 (q : Int), .slice Ax 128 cx] 74)).cell? ⟨wr.heap.size, 0, none⟩ = some (.int .i64 (q : Int)) := var_cell _ _ _ _ _ rfl
          have x_1 : (wr.alloc (.cells #[.int .i64 (q : Int), .slice Ax 128 cx] 74)).cell? ⟨wr.heap.size, 1, none⟩ = some (.slice Ax 128 cx) := var_cell _ _ _ _ _ rfl
          generalize (wr.alloc (.cells #[.int .i64 (q : Int), .slice Ax 128 cx] 74)) = v1 at *
          have hz1 : wr.heap.size ≤ v1.heap.size := he1.size
          have b1 : Below W.heap.size W v1 := hb.trans (he1.below hb.size (by omega))
          replace res_f0 := (he1.frozen res_0 (by simp only; omega)).trans res_f0
          replace res_f1 := (he1.frozen res_1 (by simp only; omega)).trans res_f1
          replace out_f0 := (he1.frozen out_0 (by simp only; omega)).trans out_f0
          replace out_f1 := (he1.frozen out_1 (by simp only; omega)).trans out_f1
          replace e_f0 := (he1.frozen e_0 (by simp only; omega)).trans e_f0
          replace res_0 := he1.cell res_0 (by simp only; omega)
          replace res_1 := he1.cell res_1 (by simp only; omega)
          replace out_0 := he1.cell out_0 (by simp only; omega)
          replace out_1 := he1.cell out_1 (by simp only; omega)
          replace e_0 := he1.cell e_0 (by simp only; omega)
          have x_l : wr.heap.size < v1.heap.size := (by omega)
          clear cc0 cc1 ckP e0P
          replace hi := hi.below (he1.below (B := W.heap.size) (by omega) (by omega)) (Nat.le_refl _)
          replace hrq := hrq.below (he1.below (B := wr.heap.size) (by omega) (by omega)) (Nat.le_refl _)
          have hE1 : Eff 0 0 wr v1 := he1
          refine ((spec_l03Full_any Aq mq cq lq v1 (hrq.more (by omega)) (by omega)).mono fun _ _ h => madeB_of h HFQ.out rfl).mono ?_
          rintro e v2 ⟨Ay, cy, rfl, y, hb⟩
          have he2 : Eff 0 0 v1 v2 := Eff.of hb
          have hz2 : v1.heap.size ≤ v2.heap.size := he2.size
          have b2 : Below W.heap.size W v2 := b1.trans (he2.below b1.size (by omega))
          replace res_f0 := (he2.frozen res_0 (by simp only; omega)).trans res_f0
          replace res_f1 := (he2.frozen res_1 (by simp only; omega)).trans res_f1
          replace out_f0 := (he2.frozen out_0 (by simp only; omega)).trans out_f0
          replace out_f1 := (he2.frozen out_1 (by simp only; omega)).trans out_f1
          replace e_f0 := (he2.frozen e_0 (by simp only; omega)).trans e_f0
          replace res_0 := he2.cell res_0 (by simp only; omega)
          replace res_1 := he2.cell res_1 (by simp only; omega)
          replace out_0 := he2.cell out_0 (by simp only; omega)
          replace out_1 := he2.cell out_1 (by simp only; omega)
          replace e_0 := he2.cell e_0 (by simp only; omega)
          replace x_0 := he2.cell x_0 (by simp only; omega)
          replace x_1 := he2.cell x_1 (by simp only; omega)
          replace x_l := Nat.lt_of_lt_of_le x_l hz2
          clear hb
          replace hi := hi.below (he2.below (B := W.heap.size) (by omega) (by omega)) (Nat.le_refl _)
          have hE2 : Eff 0 0 wr v2 := hE1.trans he2
          clear hrq
          obtain ⟨wo, rfl⟩ : ∃ wo : World, wo = wr := ⟨_, rfl⟩
          obtain ⟨gy, rfl, hgy1, hgy2, -, hyf⟩ := Own.form y (by omega)
          clear hyf
          have y0 : OwnB v2 (v1.heap.size) (v2.heap.size) (some ⟨gy, 0, none⟩) 128 cy (tearC lq lx 0) := by simpa [tearC] using y
          clear y
          go_wp2
          go_loopw [10] (fun vk wr => ∃ j : Nat, j ≤ m1 ∧ vk = .int .i64 (j : Int) ∧ Eff (v1.heap.size) (v2.heap.size) v2 wr ∧ OwnB wr (v1.heap.size) (v2.heap.size) (some ⟨gy, 0, none⟩) 128 cy (tearC lq lx j)) (fun vk _ => m1 - (intOf vk).toNat)
          case atStart => exact ⟨0, Nat.zero_le _, rfl, Eff.refl _ _ _, y0⟩
          clear y0
          case round =>
            obtain ⟨j, hj, rfl, heL, y⟩ := hrel
            by_cases hjm : j < m1
            · have x0 := heL.cell x_0 (by simp only; omega)
              have x1 := heL.cell x_1 (by simp only; omega)
              have hjz : (j : Int) < z := by split at hzm <;> omega
              have hj8 : j < 128 := by omega
              have hj8z : (j : Int) < 128 := by omega
              have hj0 : (0 : Int) ≤ (j : Int) := by omega
              obtain ⟨bx, ox, hlx2, rfl, hbx, cx1⟩ := (hi.eff heL (.inl (by omega))).byte hj8
              obtain ⟨gy2, hgy, _, _, hyc, hyf⟩ := Own.form y (by omega)
              simp only [Option.some.injEq, Addr.mk.injEq, and_true] at hgy
              subst hgy
              have hyf0 := hyf j
              obtain ⟨vy, hvy⟩ : ∃ vy, wr.cell? ⟨gy, j, none⟩ = some vy := ⟨_, (hyc j (by omega)).trans (List.getElem?_eq_getElem (by have := Own.len y; omega))⟩
              clear hyc hyf
              go_wp2
              go_roundw
              case rel => exact ⟨j + 1, by omega, by go_num, heL.trans (Own.stored y j _).2, own_tearS HFQ.out HLX.out y⟩
              case measure => simp [intOf]; omega
            · obtain rfl : j = m1 := by omega
              clear hjm hj
              have he3 := heL
              have hz3 : v2.heap.size ≤ wr.heap.size := he3.size
              have b3 : Below W.heap.size W wr := b2.trans (he3.below b2.size (by omega))
              replace res_f0 := (he3.frozen res_0 (by simp only; omega)).trans res_f0
              replace res_f1 := (he3.frozen res_1 (by simp only; omega)).trans res_f1
              replace out_f0 := (he3.frozen out_0 (by simp only; omega)).trans out_f0
              replace out_f1 := (he3.frozen out_1 (by simp only; omega)).trans out_f1
              replace e_f0 := (he3.frozen e_0 (by simp only; omega)).trans e_f0
              replace res_0 := he3.cell res_0 (by simp only; omega)
              replace res_1 := he3.cell res_1 (by simp only; omega)
              replace out_0 := he3.cell out_0 (by simp only; omega)
              replace out_1 := he3.cell out_1 (by simp only; omega)
              replace e_0 := he3.cell e_0 (by simp only; omega)
              replace x_0 := he3.cell x_0 (by simp only; omega)
              replace x_1 := he3.cell x_1 (by simp only; omega)
              replace x_l := Nat.lt_of_lt_of_le x_l hz3
              have hE3 : Eff 0 0 wo wr := Eff.join hE2 he3 (by omega)
              clear heL hi
              by_cases hzj : (j : Int) < z
              · skip
                have hj9 : (128 : Int) ≤ (j : Int) := by split at hzm <;> omega
                have hj7 : 128 ≤ j := by omega
                clear hzm
                go_wp2_with fail
                have hest : Eff gb (gb + 1) wr (wr.setCell ⟨gb, q, none⟩ (.slice (some ⟨gy, 0, none⟩) 128 cy)) := eff_set _ _ _ _
                have y9 : OwnB wr wo.heap.size wr.heap.size (some ⟨gy, 0, none⟩) 128 cy (tearC lq lx j) := Own.wide y (by omega) (by omega) (Nat.le_refl _)
                have hC2 := hC0.setNew (i := q) (y := ⟨(some ⟨gy, 0, none⟩), 128, cy, tearC lq lx j⟩) hE3 y9 rfl hest (fun xs h1 h2 => cell_stored (y := ⟨(some ⟨gy, 0, none⟩), 128, cy, tearC lq lx j⟩) HXQ.out h1 h2)
                have hOff2 := hOff.set (i := q) (y := (⟨(some ⟨gy, 0, none⟩), 128, cy, tearC lq lx j⟩ : Ce)) (fun b hb => by have := (Own.lohi y9 b hb).1; omega)
                replace res_0 := hest.cell res_0 (by simp only; omega)
                replace res_1 := hest.cell res_1 (by simp only; omega)
                replace out_0 := hest.cell out_0 (by simp only; omega)
                replace out_1 := hest.cell out_1 (by simp only; omega)
                replace res_f0 := set_frozen (p := ⟨gb, q, none⟩) res_f0 (.slice (some ⟨gy, 0, none⟩) 128 cy)
                replace res_f1 := set_frozen (p := ⟨gb, q, none⟩) res_f1 (.slice (some ⟨gy, 0, none⟩) 128 cy)
                replace out_f0 := set_frozen (p := ⟨gb, q, none⟩) out_f0 (.slice (some ⟨gy, 0, none⟩) 128 cy)
                replace out_f1 := set_frozen (p := ⟨gb, q, none⟩) out_f1 (.slice (some ⟨gy, 0, none⟩) 128 cy)
                have hbf : Below W.heap.size W (wr.setCell ⟨gb, q, none⟩ (.slice (some ⟨gy, 0, none⟩) 128 cy)) := b3.trans (hest.below b3.size (by omega))
                have hsst : (wr.setCell ⟨gb, q, none⟩ (.slice (some ⟨gy, 0, none⟩) 128 cy)).heap.size = wr.heap.size := (by simp)
                go_roundw
                case rel => exact ⟨k + 1, _, by omega, by go_num, hbf, by omega, res_0, res_1, res_f0, res_f1, out_0, out_1, out_f0, out_f1, hC2, hOff2, Lib.hid (by rw [List.map_set, HS.out, crashN_succ HX.out, HKP.out, keepC_set (l := lq) (by omega) (by simp only [Int.toNat_natCast]; rw [← HS.out, List.getElem?_map, HXQ.out]; rfl)]; rfl)⟩
                case measure => simp [intOf]; omega
              · skip
                clear hzm
                go_wp2_with fail
                have hest : Eff gb (gb + 1) wr (wr.setCell ⟨gb, q, none⟩ (.slice (some ⟨gy, 0, none⟩) 128 cy)) := eff_set _ _ _ _
                have y9 : OwnB wr wo.heap.size wr.heap.size (some ⟨gy, 0, none⟩) 128 cy (tearC lq lx j) := Own.wide y (by omega) (by omega) (Nat.le_refl _)
                have hC2 := hC0.setNew (i := q) (y := ⟨(some ⟨gy, 0, none⟩), 128, cy, tearC lq lx j⟩) hE3 y9 rfl hest (fun xs h1 h2 => cell_stored (y := ⟨(some ⟨gy, 0, none⟩), 128, cy, tearC lq lx j⟩) HXQ.out h1 h2)
                have hOff2 := hOff.set (i := q) (y := (⟨(some ⟨gy, 0, none⟩), 128, cy, tearC lq lx j⟩ : Ce)) (fun b hb => by have := (Own.lohi y9 b hb).1; omega)
                replace res_0 := hest.cell res_0 (by simp only; omega)
                replace res_1 := hest.cell res_1 (by simp only; omega)
                replace out_0 := hest.cell out_0 (by simp only; omega)
                replace out_1 := hest.cell out_1 (by simp only; omega)
                replace res_f0 := set_frozen (p := ⟨gb, q, none⟩) res_f0 (.slice (some ⟨gy, 0, none⟩) 128 cy)
                replace res_f1 := set_frozen (p := ⟨gb, q, none⟩) res_f1 (.slice (some ⟨gy, 0, none⟩) 128 cy)
                replace out_f0 := set_frozen (p := ⟨gb, q, none⟩) out_f0 (.slice (some ⟨gy, 0, none⟩) 128 cy)
                replace out_f1 := set_frozen (p := ⟨gb, q, none⟩) out_f1 (.slice (some ⟨gy, 0, none⟩) 128 cy)
                have hbf : Below W.heap.size W (wr.setCell ⟨gb, q, none⟩ (.slice (some ⟨gy, 0, none⟩) 128 cy)) := b3.trans (hest.below b3.size (by omega))
                have hsst : (wr.setCell ⟨gb, q, none⟩ (.slice (some ⟨gy, 0, none⟩) 128 cy)).heap.size = wr.heap.size := (by simp)
                go_roundw
                case rel => exact ⟨k + 1, _, by omega, by go_num, hbf, by omega, res_0, res_1, res_f0, res_f1, out_0, out_1, out_f0, out_f1, hC2, hOff2, Lib.hid (by rw [List.map_set, HS.out, crashN_succ HX.out, HKP.out, keepC_set (l := lq) (by omega) (by simp only [Int.toNat_natCast]; rw [← HS.out, List.getElem?_map, HXQ.out]; rfl)]; rfl)⟩
                case measure => simp [intOf]; omega
      · skip
        clear hk
        have HKP : Hid (kp ks k = 0) := Lib.hid (kp_none (by rw [HKL.out]; omega))
        go_wp2_with fail
        have he1 : Eff 0 0 wr (wr.alloc (.cells #[.int .i64 (q : Int), .slice Ax 128 cx] 74)) := Eff.alloc _ _
        have hs1 : (wr.alloc (.cells #[.int .i64 (q : Int), .slice Ax 128 cx] 74)).heap.size = wr.heap.size + 1 := (by simp)
        have x_0 : (wr.alloc (.cells #[.int .i64 (q : Int), .slice Ax 128 cx] 74)).cell? ⟨wr.heap.size, 0, none⟩ = some (.int .i64 (q : Int)) := var_cell _ _ _ _ _ rfl
        have x_1 : (wr.alloc (.cells #[.int .i64 (q : Int), .slice Ax 128 cx] 74)).cell? ⟨wr.heap.size, 1, none⟩ = some (.slice Ax 128 cx) := var_cell _ _ _ _ _ rfl
        generalize (wr.alloc (.cells #[.int .i64 (q : Int), .slice Ax 128 cx] 74)) = v1 at *
        have hz1 : wr.heap.size ≤ v1.heap.size := he1.size
        have b1 : Below W.heap.size W v1 := hb.trans (he1.below hb.size (by omega))
        replace res_f0 := (he1.frozen res_0 (by simp only; omega)).trans res_f0
        replace res_f1 := (he1.frozen res_1 (by simp only; omega)).trans res_f1
        replace out_f0 := (he1.frozen out_0 (by simp only; omega)).trans out_f0
        replace out_f1 := (he1.frozen out_1 (by simp only; omega)).trans out_f1
        replace e_f0 := (he1.frozen e_0 (by simp only; omega)).trans e_f0
        replace res_0 := he1.cell res_0 (by simp only; omega)
        replace res_1 := he1.cell res_1 (by simp only; omega)
        replace out_0 := he1.cell out_0 (by simp only; omega)
        replace out_1 := he1.cell out_1 (by simp only; omega)
        replace e_0 := he1.cell e_0 (by simp only; omega)
        have x_l : wr.heap.size < v1.heap.size := (by omega)
        clear cc0 cc1
        replace hi := hi.below (he1.below (B := W.heap.size) (by omega) (by omega)) (Nat.le_refl _)
        replace hrq := hrq.below (he1.below (B := wr.heap.size) (by omega) (by omega)) (Nat.le_refl _)
        have hE1 : Eff 0 0 wr v1 := he1
        have hC2 : OwnCell v1 lo v1.heap.size (some ⟨gb, 0, none⟩) nc c1 es := (hC0.keep hE1 (by omega)).wide (Nat.le_refl _) (by omega) (Nat.le_refl _)
        have hHw2 : H < v1.heap.size := by omega
        go_roundw
        case rel => exact ⟨k + 1, es, by omega, by go_num, b1, hHw2, res_0, res_1, res_f0, res_f1, out_0, out_1, out_f0, out_f1, hC2, hOff, Lib.hid (by rw [HS.out, crashN_succ HX.out, HKP.out, keepC_zero])⟩
        case measure => simp [intOf]; omega
    · have hge : nw = k := by omega
      subst hge
      go_wp2
      refine bodyPost_ret (v := .agg #[.slice (some ⟨gb, 0, none⟩) nc c1, .slice none 0 0]) (by simp [results, Try.results32, go_sem, *]) rfl ?_
      exact madeD_cellsS (by rw [HS.out, ← HR.out, HLW.out]) hC hb (g := W.heap.size + 1) (by omega) (by omega)
end Go.Proofs.Ytblenfhacaecmaa
