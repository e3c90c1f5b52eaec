/- DiskWrite, in the program and in the reference. -/
import Derived.Test.YtblenfhacaecmaaCpy
import Derived.Test.YtblenfhacaecmaaOff
import Derived.Test.YtblenfhacaecmaaDpl
namespace Go.Proofs.Ytblenfhacaecmaa
open Go.RowKit
/-- May the write be? -/
def dwrOk (dc : List (List UInt8)) (dw : List (Int × List UInt8)) (p : Int) (l : List UInt8) : Bool := dkOk dc dw && dkOk dc (dw ++ [(p, l)])
theorem madeDT_no {W w : World} (h : Below W.heap.size W w) : MadeDT [] [] false W (.returned (.tuple #[.agg #[.slice none 0 0, .slice none 0 0], .bool false])) w := (made_none false h).d
theorem eff_two {w : World} {b : Nat} {u v : Value} : Eff b (b + 1) w ((w.setCell ⟨b, 0, none⟩ u).setCell ⟨b, 1, none⟩ v) := (eff_set w b 0 u).trans (eff_set _ b 1 v)
theorem madeDT_two {g mid lo n1 c1 n2 c2 : Nat} {W w : World} {A1 A2 : Option Addr} {cs : List Ce} {ws : List Wr} {dc : List (List UInt8)} {dw : List (Int × List UInt8)} {v0 v1 : Value} (hd1 : cs.map Ce.d = dc) (hd2 : ws.map Wr.d = dw) (t1 : OwnCell w lo mid A1 n1 c1 cs) (t2 : OwnWrite w mid w.heap.size A2 n2 c2 ws) (hb : Below W.heap.size W w) (h2 : W.heap.size ≤ g) (h4 : g < lo) :
    MadeDT dc dw true W (.returned (.tuple #[.agg #[.slice A1 n1 c1, .slice A2 n2 c2], .bool true])) ((w.setCell ⟨g, 0, none⟩ v0).setCell ⟨g, 1, none⟩ v1) := by
  have e : Eff g (g + 1) w ((w.setCell ⟨g, 0, none⟩ v0).setCell ⟨g, 1, none⟩ v1) := eff_two
  have hs : ((w.setCell ⟨g, 0, none⟩ v0).setCell ⟨g, 1, none⟩ v1).heap.size = w.heap.size := by simp
  have l1 := t1.lohi
  have l2 := t2.lohi
  refine MadeDkT.d ⟨A1, n1, c1, A2, n2, c2, cs, ws, rfl, hd1, hd2, ⟨mid, ?_, ?_⟩, ((hb.setCell h2 _).setCell h2 _)⟩
  · exact (t1.keep e (by omega)).wide (by omega) (Nat.le_refl _) (by omega)
  · rw [hs]; exact t2.keep e (by omega)
set_option maxHeartbeats 8000000 in
set_option maxRecDepth 100000 in
theorem impl_DiskWrite_d (Ac : Option Addr) (nc cc : Nat) (Aw : Option Addr) (nw cw : Nat) (dc : List (List UInt8)) (dw : List (Int × List UInt8)) (px : Int) (Ax : Option Addr) (nx cx : Nat) (lx : List UInt8) (W : World) (h : RdDk W W.heap.size Ac nc Aw nw dc dw) (LB : lenB dc dw) (hi : Rd W W.heap.size 1 Ax nx (Lib.byteCells lx)) (hnx : nx ≤ 1048576) :
    Calls Try.prog 22 #[.agg #[.slice Ac nc cc, .slice Aw nw cw], .int .i64 px, .slice Ax nx cx] W (MadeDT (if dwrOk dc dw px lx then dc else []) (if dwrOk dc dw px lx then dw ++ [(px, lx)] else []) (dwrOk dc dw px lx) W) := by
  have hlc := h.len.1
  have hlw := h.len.2
  have hncb : nc ≤ 1048576 := by have := LB.1; omega
  have hnwb : nw ≤ 1048576 := by have := LB.2.1; omega
  have hlx : lx.length = nx := len_of_rd hi
  have HLX := Lib.hid hlx
  have HLC := Lib.hid hlc
  have HLW := Lib.hid hlw
  clear hlc hlw hlx
  obtain ⟨wi0, hwi0, hwz0, hwz1, hwz2⟩ := info_parts info_Write
  obtain ⟨u0, hu0, hv0, hv1, hv2⟩ := info_parts info_u8
  obtain ⟨cs0, ws0, hrc, hrw, hdc, hdw⟩ := h
  have HDC := Lib.hid hdc
  have HDW := Lib.hid hdw
  have h : RdDk W W.heap.size Ac nc Aw nw dc dw := ⟨cs0, ws0, hrc, hrw, hdc, hdw⟩
  have hlo : lenOk cs0 ws0 := ⟨fun x hx => by have := ce_len hrc (m := 1048576) (by rw [hdc]; exact LB.2.2.1) x hx; omega, fun x hx => by have := wr_len hrw (m := 1048576) (by rw [hdw]; exact LB.2.2.2) x hx; omega⟩
  have HLO := Lib.hid hlo
  clear hlo hdc hdw
  rcases hok : dkOk dc dw with _ | _
  · rw [show dwrOk dc dw px lx = false by simp [dwrOk, hok]]
    simp only [Bool.false_eq_true, if_false]
    go_enter Try.func22, Try.ntmps22
    go_wp2_with fail
    have he1 : Eff 0 0 W (W.alloc (.cells #[.slice Ac nc cc, .slice Aw nw cw] 33)) := Eff.alloc _ _
    have hs1 : (W.alloc (.cells #[.slice Ac nc cc, .slice Aw nw cw] 33)).heap.size = W.heap.size + 1 := (by simp)
    have aD_0 : (W.alloc (.cells #[.slice Ac nc cc, .slice Aw nw cw] 33)).cell? ⟨W.heap.size, 0, none⟩ = some (.slice Ac nc cc) := var_cell _ _ _ _ _ rfl
    have aD_1 : (W.alloc (.cells #[.slice Ac nc cc, .slice Aw nw cw] 33)).cell? ⟨W.heap.size, 1, none⟩ = some (.slice Aw nw cw) := var_cell _ _ _ _ _ rfl
    generalize (W.alloc (.cells #[.slice Ac nc cc, .slice Aw nw cw] 33)) = w1 at *
    have hz1 : W.heap.size ≤ w1.heap.size := he1.size
    have b1 : Below W.heap.size W w1 := he1.below (Nat.le_refl _) (by omega)
    replace h := (h.below (he1.below (B := W.heap.size) (by omega) (by omega)) (Nat.le_refl _))
    replace hrc := (hrc.below (he1.below (B := W.heap.size) (by omega) (by omega)) (Nat.le_refl _))
    replace hrw := (hrw.below (he1.below (B := W.heap.size) (by omega) (by omega)) (Nat.le_refl _))
    replace hi := (hi.below (he1.below (B := W.heap.size) (by omega) (by omega)) (Nat.le_refl _))
    have aD_l : W.heap.size < w1.heap.size := (by omega)
    have he2 : Eff 0 0 w1 (w1.alloc (.cells #[.slice none 0 0, .slice none 0 0] 33)) := Eff.alloc _ _
    have hs2 : (w1.alloc (.cells #[.slice none 0 0, .slice none 0 0] 33)).heap.size = w1.heap.size + 1 := (by simp)
    have res_0 : (w1.alloc (.cells #[.slice none 0 0, .slice none 0 0] 33)).cell? ⟨w1.heap.size, 0, none⟩ = some (.slice none 0 0) := var_cell _ _ _ _ _ rfl
    have res_1 : (w1.alloc (.cells #[.slice none 0 0, .slice none 0 0] 33)).cell? ⟨w1.heap.size, 1, none⟩ = some (.slice none 0 0) := var_cell _ _ _ _ _ rfl
    have res_f0 : (w1.alloc (.cells #[.slice none 0 0, .slice none 0 0] 33)).frozen? ⟨w1.heap.size, 0, none⟩ = false := var_frozen _ _ _ _
    have res_f1 : (w1.alloc (.cells #[.slice none 0 0, .slice none 0 0] 33)).frozen? ⟨w1.heap.size, 1, none⟩ = false := var_frozen _ _ _ _
    generalize (w1.alloc (.cells #[.slice none 0 0, .slice none 0 0] 33)) = w2 at *
    have hz2 : w1.heap.size ≤ w2.heap.size := he2.size
    have b2 : Below W.heap.size W w2 := b1.trans (he2.below b1.size (by omega))
    replace h := (h.below (he2.below (B := W.heap.size) (by omega) (by omega)) (Nat.le_refl _))
    replace hrc := (hrc.below (he2.below (B := W.heap.size) (by omega) (by omega)) (Nat.le_refl _))
    replace hrw := (hrw.below (he2.below (B := W.heap.size) (by omega) (by omega)) (Nat.le_refl _))
    replace hi := (hi.below (he2.below (B := W.heap.size) (by omega) (by omega)) (Nat.le_refl _))
    replace aD_0 := he2.cell aD_0 (by simp only; omega)
    replace aD_1 := he2.cell aD_1 (by simp only; omega)
    replace aD_l := Nat.lt_of_lt_of_le aD_l hz2
    rw [hs1] at res_0 res_f0
    rw [hs1] at res_1 res_f1
    have res_l : W.heap.size + 1 < w2.heap.size := (by omega)
    refine (impl_DiskOk_d Ac nc cc Aw nw cw dc dw w2 (h.more (by omega)) LB).mono ?_
    rintro e w3 ⟨rfl, hb⟩
    have he3 : Eff 0 0 w2 w3 := Eff.of hb
    have hz3 : w2.heap.size ≤ w3.heap.size := he3.size
    have b3 : Below W.heap.size W w3 := b2.trans (he3.below b2.size (by omega))
    replace h := (h.below (he3.below (B := W.heap.size) (by omega) (by omega)) (Nat.le_refl _))
    replace hrc := (hrc.below (he3.below (B := W.heap.size) (by omega) (by omega)) (Nat.le_refl _))
    replace hrw := (hrw.below (he3.below (B := W.heap.size) (by omega) (by omega)) (Nat.le_refl _))
    replace hi := (hi.below (he3.below (B := W.heap.size) (by omega) (by omega)) (Nat.le_refl _))
    replace res_f0 := (he3.frozen res_0 (by simp only; omega)).trans res_f0
    replace res_f1 := (he3.frozen res_1 (by simp only; omega)).trans res_f1
    replace aD_0 := he3.cell aD_0 (by simp only; omega)
    replace aD_1 := he3.cell aD_1 (by simp only; omega)
    replace res_0 := he3.cell res_0 (by simp only; omega)
    replace res_1 := he3.cell res_1 (by simp only; omega)
    replace aD_l := Nat.lt_of_lt_of_le aD_l hz3
    replace res_l := Nat.lt_of_lt_of_le res_l hz3
    clear hb
    rw [hok]
    go_wp2
    refine bodyPost_ret (v := .tuple #[.agg #[.slice none 0 0, .slice none 0 0], .bool false]) (by simp [results, Try.results22, go_sem, *]) rfl ?_
    exact madeDT_no (b3.trans (eff_two.below b3.size (.inl (by omega))))
  obtain ⟨ok2, hok2⟩ : ∃ ok2, dkOk dc (dw ++ [(px, lx)]) = ok2 := ⟨_, rfl⟩
  rw [show dwrOk dc dw px lx = ok2 by simp [dwrOk, hok, hok2]]
  have LB2 : lenB dc (dw ++ [(px, lx)]) := ⟨LB.1, by have h1 := LB.2.1; have h2 := (dkOk_iff.1 hok).1; simp; omega, LB.2.2.1, fun x hx => by
    rcases List.mem_append.1 hx with hx | hx
    · exact LB.2.2.2 x hx
    · simp at hx; subst hx; have := HLX.out; simp only; omega⟩
  obtain ⟨RC, hRC⟩ : ∃ R, (if ok2 = true then dc else []) = R := ⟨_, rfl⟩
  obtain ⟨RW, hRW⟩ : ∃ R, (if ok2 = true then dw ++ [(px, lx)] else []) = R := ⟨_, rfl⟩
  rw [hRC, hRW]
  have HRC := Lib.hid hRC
  have HRW := Lib.hid hRW
  clear hRC hRW
  have HOK2 := Lib.hid hok2
  have HLB2 := Lib.hid LB2
  have HLB := Lib.hid LB
  clear hok2 LB2 LB
  go_enter Try.func22, Try.ntmps22
  go_wp2_with fail
  have he1 : Eff 0 0 W (W.alloc (.cells #[.slice Ac nc cc, .slice Aw nw cw] 33)) := Eff.alloc _ _
  have hs1 : (W.alloc (.cells #[.slice Ac nc cc, .slice Aw nw cw] 33)).heap.size = W.heap.size + 1 := (by simp)
  have aD_0 : (W.alloc (.cells #[.slice Ac nc cc, .slice Aw nw cw] 33)).cell? ⟨W.heap.size, 0, none⟩ = some (.slice Ac nc cc) := var_cell _ _ _ _ _ rfl
  have aD_1 : (W.alloc (.cells #[.slice Ac nc cc, .slice Aw nw cw] 33)).cell? ⟨W.heap.size, 1, none⟩ = some (.slice Aw nw cw) := var_cell _ _ _ _ _ rfl
  generalize (W.alloc (.cells #[.slice Ac nc cc, .slice Aw nw cw] 33)) = w1 at *
  have hz1 : W.heap.size ≤ w1.heap.size := he1.size
  have b1 : Below W.heap.size W w1 := he1.below (Nat.le_refl _) (by omega)
  replace h := (h.below (he1.below (B := W.heap.size) (by omega) (by omega)) (Nat.le_refl _))
  replace hrc := (hrc.below (he1.below (B := W.heap.size) (by omega) (by omega)) (Nat.le_refl _))
  replace hrw := (hrw.below (he1.below (B := W.heap.size) (by omega) (by omega)) (Nat.le_refl _))
  replace hi := (hi.below (he1.below (B := W.heap.size) (by omega) (by omega)) (Nat.le_refl _))
  have aD_l : W.heap.size < w1.heap.size := (by omega)
  have he2 : Eff 0 0 w1 (w1.alloc (.cells #[.slice none 0 0, .slice none 0 0] 33)) := Eff.alloc _ _
  have hs2 : (w1.alloc (.cells #[.slice none 0 0, .slice none 0 0] 33)).heap.size = w1.heap.size + 1 := (by simp)
  have res_0 : (w1.alloc (.cells #[.slice none 0 0, .slice none 0 0] 33)).cell? ⟨w1.heap.size, 0, none⟩ = some (.slice none 0 0) := var_cell _ _ _ _ _ rfl
  have res_1 : (w1.alloc (.cells #[.slice none 0 0, .slice none 0 0] 33)).cell? ⟨w1.heap.size, 1, none⟩ = some (.slice none 0 0) := var_cell _ _ _ _ _ rfl
  have res_f0 : (w1.alloc (.cells #[.slice none 0 0, .slice none 0 0] 33)).frozen? ⟨w1.heap.size, 0, none⟩ = false := var_frozen _ _ _ _
  have res_f1 : (w1.alloc (.cells #[.slice none 0 0, .slice none 0 0] 33)).frozen? ⟨w1.heap.size, 1, none⟩ = false := var_frozen _ _ _ _
  generalize (w1.alloc (.cells #[.slice none 0 0, .slice none 0 0] 33)) = w2 at *
  have hz2 : w1.heap.size ≤ w2.heap.size := he2.size
  have b2 : Below W.heap.size W w2 := b1.trans (he2.below b1.size (by omega))
  replace h := (h.below (he2.below (B := W.heap.size) (by omega) (by omega)) (Nat.le_refl _))
  replace hrc := (hrc.below (he2.below (B := W.heap.size) (by omega) (by omega)) (Nat.le_refl _))
  replace hrw := (hrw.below (he2.below (B := W.heap.size) (by omega) (by omega)) (Nat.le_refl _))
  replace hi := (hi.below (he2.below (B := W.heap.size) (by omega) (by omega)) (Nat.le_refl _))
  replace aD_0 := he2.cell aD_0 (by simp only; omega)
  replace aD_1 := he2.cell aD_1 (by simp only; omega)
  replace aD_l := Nat.lt_of_lt_of_le aD_l hz2
  rw [hs1] at res_0 res_f0
  rw [hs1] at res_1 res_f1
  have res_l : W.heap.size + 1 < w2.heap.size := (by omega)
  refine (impl_DiskOk_d Ac nc cc Aw nw cw dc dw w2 (h.more (by omega)) HLB.out).mono ?_
  rintro e w3 ⟨rfl, hb⟩
  have he3 : Eff 0 0 w2 w3 := Eff.of hb
  have hz3 : w2.heap.size ≤ w3.heap.size := he3.size
  have b3 : Below W.heap.size W w3 := b2.trans (he3.below b2.size (by omega))
  replace h := (h.below (he3.below (B := W.heap.size) (by omega) (by omega)) (Nat.le_refl _))
  replace hrc := (hrc.below (he3.below (B := W.heap.size) (by omega) (by omega)) (Nat.le_refl _))
  replace hrw := (hrw.below (he3.below (B := W.heap.size) (by omega) (by omega)) (Nat.le_refl _))
  replace hi := (hi.below (he3.below (B := W.heap.size) (by omega) (by omega)) (Nat.le_refl _))
  replace res_f0 := (he3.frozen res_0 (by simp only; omega)).trans res_f0
  replace res_f1 := (he3.frozen res_1 (by simp only; omega)).trans res_f1
  replace aD_0 := he3.cell aD_0 (by simp only; omega)
  replace aD_1 := he3.cell aD_1 (by simp only; omega)
  replace res_0 := he3.cell res_0 (by simp only; omega)
  replace res_1 := he3.cell res_1 (by simp only; omega)
  replace aD_l := Nat.lt_of_lt_of_le aD_l hz3
  replace res_l := Nat.lt_of_lt_of_le res_l hz3
  clear hb
  rw [hok]
  go_wp2_with fail
  refine (impl_copyDisk_any Ac nc cc cs0 Aw nw cw ws0 w3 (hrc.more (by omega)) (hrw.more (by omega)) hncb hnwb HLO.out).mono ?_
  rintro e w4 ⟨A1, n1, c1, A2, n2, c2, cs, es, rfl, qd1, qd2, ⟨m, hD, hC⟩, hb⟩
  have he4 : Eff 0 0 w3 w4 := Eff.of hb
  have hz4 : w3.heap.size ≤ w4.heap.size := he4.size
  have b4 : Below W.heap.size W w4 := b3.trans (he4.below b3.size (by omega))
  replace h := (h.below (he4.below (B := W.heap.size) (by omega) (by omega)) (Nat.le_refl _))
  replace hrc := (hrc.below (he4.below (B := W.heap.size) (by omega) (by omega)) (Nat.le_refl _))
  replace hrw := (hrw.below (he4.below (B := W.heap.size) (by omega) (by omega)) (Nat.le_refl _))
  replace hi := (hi.below (he4.below (B := W.heap.size) (by omega) (by omega)) (Nat.le_refl _))
  replace res_f0 := (he4.frozen res_0 (by simp only; omega)).trans res_f0
  replace res_f1 := (he4.frozen res_1 (by simp only; omega)).trans res_f1
  replace aD_0 := he4.cell aD_0 (by simp only; omega)
  replace aD_1 := he4.cell aD_1 (by simp only; omega)
  replace res_0 := he4.cell res_0 (by simp only; omega)
  replace res_1 := he4.cell res_1 (by simp only; omega)
  replace aD_l := Nat.lt_of_lt_of_le aD_l hz4
  replace res_l := Nat.lt_of_lt_of_le res_l hz4
  clear hb
  have QD := Lib.hid (qd1.trans HDC.out)
  have QE := Lib.hid (qd2.trans HDW.out)
  clear qd1 qd2
  obtain rfl : nc = n1 := by rw [← HLC.out, ← QD.out, List.length_map, hD.len Ce.hf (by omega)]
  obtain rfl : nw = n2 := by rw [← HLW.out, ← QE.out, List.length_map, hC.len Wr.hf (by omega)]
  have hlo1 := hD.lohi
  have hlo2 := hC.lohi
  have hlo3 := hC.le
  obtain ⟨H, hH⟩ : ∃ H, w4.heap.size = H := ⟨_, rfl⟩
  have hC0 : OwnWrite w4 m H A2 nw c2 es := by rw [← hH]; exact hC
  clear hC hlo3
  have hC := hC0
  clear hC0
  go_wp2_with fail
  have he5 : Eff 0 0 w4 (w4.alloc (.cells #[.slice A1 nc c1, .slice A2 nw c2] 33)) := Eff.alloc _ _
  have hs5 : (w4.alloc (.cells #[.slice A1 nc c1, .slice A2 nw c2] 33)).heap.size = w4.heap.size + 1 := (by simp)
  have out_0 : (w4.alloc (.cells #[.slice A1 nc c1, .slice A2 nw c2] 33)).cell? ⟨w4.heap.size, 0, none⟩ = some (.slice A1 nc c1) := var_cell _ _ _ _ _ rfl
  have out_1 : (w4.alloc (.cells #[.slice A1 nc c1, .slice A2 nw c2] 33)).cell? ⟨w4.heap.size, 1, none⟩ = some (.slice A2 nw c2) := var_cell _ _ _ _ _ rfl
  have out_f0 : (w4.alloc (.cells #[.slice A1 nc c1, .slice A2 nw c2] 33)).frozen? ⟨w4.heap.size, 0, none⟩ = false := var_frozen _ _ _ _
  have out_f1 : (w4.alloc (.cells #[.slice A1 nc c1, .slice A2 nw c2] 33)).frozen? ⟨w4.heap.size, 1, none⟩ = false := var_frozen _ _ _ _
  generalize (w4.alloc (.cells #[.slice A1 nc c1, .slice A2 nw c2] 33)) = w5 at *
  have hz5 : w4.heap.size ≤ w5.heap.size := he5.size
  have b5 : Below W.heap.size W w5 := b4.trans (he5.below b4.size (by omega))
  replace h := (h.below (he5.below (B := W.heap.size) (by omega) (by omega)) (Nat.le_refl _))
  replace hrc := (hrc.below (he5.below (B := W.heap.size) (by omega) (by omega)) (Nat.le_refl _))
  replace hrw := (hrw.below (he5.below (B := W.heap.size) (by omega) (by omega)) (Nat.le_refl _))
  replace hi := (hi.below (he5.below (B := W.heap.size) (by omega) (by omega)) (Nat.le_refl _))
  replace hD := hD.keep he5 (by omega)
  replace hC := hC.keep he5 (by omega)
  replace res_f0 := (he5.frozen res_0 (by simp only; omega)).trans res_f0
  replace res_f1 := (he5.frozen res_1 (by simp only; omega)).trans res_f1
  replace aD_0 := he5.cell aD_0 (by simp only; omega)
  replace aD_1 := he5.cell aD_1 (by simp only; omega)
  replace res_0 := he5.cell res_0 (by simp only; omega)
  replace res_1 := he5.cell res_1 (by simp only; omega)
  replace aD_l := Nat.lt_of_lt_of_le aD_l hz5
  replace res_l := Nat.lt_of_lt_of_le res_l hz5
  rw [hH] at out_0 out_f0
  rw [hH] at out_1 out_f1
  have out_l : H < w5.heap.size := (by omega)
  have hHw : H < w5.heap.size := by omega
  go_wp2_with fail
  have he6 : Eff 0 0 w5 w5.drew := (Eff.refl _ _ _).drew
  have hz6 : w5.heap.size ≤ w5.drew.heap.size := he6.size
  have b6 : Below W.heap.size W w5.drew := b5.trans (he6.below b5.size (by omega))
  replace h := (h.below (he6.below (B := W.heap.size) (by omega) (by omega)) (Nat.le_refl _))
  replace hrc := (hrc.below (he6.below (B := W.heap.size) (by omega) (by omega)) (Nat.le_refl _))
  replace hrw := (hrw.below (he6.below (B := W.heap.size) (by omega) (by omega)) (Nat.le_refl _))
  replace hi := (hi.below (he6.below (B := W.heap.size) (by omega) (by omega)) (Nat.le_refl _))
  replace hD := hD.keep he6 (by omega)
  replace hC := hC.keep he6 (by omega)
  replace res_f0 := (he6.frozen res_0 (by simp only; omega)).trans res_f0
  replace res_f1 := (he6.frozen res_1 (by simp only; omega)).trans res_f1
  replace out_f0 := (he6.frozen out_0 (by simp only; omega)).trans out_f0
  replace out_f1 := (he6.frozen out_1 (by simp only; omega)).trans out_f1
  replace aD_0 := he6.cell aD_0 (by simp only; omega)
  replace aD_1 := he6.cell aD_1 (by simp only; omega)
  replace res_0 := he6.cell res_0 (by simp only; omega)
  replace res_1 := he6.cell res_1 (by simp only; omega)
  replace out_0 := he6.cell out_0 (by simp only; omega)
  replace out_1 := he6.cell out_1 (by simp only; omega)
  replace aD_l := Nat.lt_of_lt_of_le aD_l hz6
  replace res_l := Nat.lt_of_lt_of_le res_l hz6
  replace out_l := Nat.lt_of_lt_of_le out_l hz6
  refine wp_region_held_drew (S := fun w' => True) (by kernel_rfl) ?rg1 (fun hHeld => ?_)
  case rg1 => ((try dsimp only); (try trivial))
  generalize w5.drew = v0 at *
  obtain ⟨ta, tb, htt, hta, htab, htb, htq⟩ := Own.tight hC.row hC.lohi
  have HTQ := Lib.hid htq
  clear htq
  refine wpAnyH_take (i := 0) (oi := { dst := some 15, op := Go.Op.fieldAddr 33 (Go.Operand.tmp 8) 1, type := 0, pos := "l03_disk.go:159", after := #[], guard := none }) (v := ?v2) rfl (by kernel_rfl) (by kernel_rfl) (by kernel_rfl) (fun _ _ _ h => h) (Or.inl ⟨by rfl, ?y2⟩) (by assumption) ?_
  case y2 => (intro w hSw; (try dsimp only at hSw); go_simp; first | done | with_reducible rfl)
  try simp only [Act.put, List.setIfInBounds_toArray, List.set_cons_zero, List.set_cons_succ]
  refine wpAnyH_take (i := 2) (oi := { dst := some 17, op := Go.Op.move (Go.Operand.tmp 1), type := 3, pos := "l03_disk.go:159", after := #[], guard := none }) (v := ?v3) rfl (by kernel_rfl) (by kernel_rfl) (by kernel_rfl) (fun _ _ _ h => h) (Or.inl ⟨by rfl, ?y3⟩) (by assumption) ?_
  case y3 => (intro w hSw; (try dsimp only at hSw); go_simp; first | done | with_reducible rfl)
  try simp only [Act.put, List.setIfInBounds_toArray, List.set_cons_zero, List.set_cons_succ]
  refine wpAnyH_take (i := 3) (oi := { dst := some 18, op := Go.Op.move (Go.Operand.tmp 2), type := 27, pos := "l03_disk.go:159", after := #[], guard := none }) (v := ?v4) rfl (by kernel_rfl) (by kernel_rfl) (by kernel_rfl) (fun _ _ _ h => h) (Or.inl ⟨by rfl, ?y4⟩) (by assumption) ?_
  case y4 => (intro w hSw; (try dsimp only at hSw); go_simp; first | done | with_reducible rfl)
  try simp only [Act.put, List.setIfInBounds_toArray, List.set_cons_zero, List.set_cons_succ]
  refine wpAnyH_ready (rs := [1, 4]) (by kernel_rfl) (by simp) ?_
  refine AllReadyH.cons (o := { dst := some 16, op := Go.Op.load 31 (Go.Operand.tmp 15), type := 31, pos := "l03_disk.go:159", after := #[{ on := 0, ground := Go.Ground.data }], guard := none }) rfl (fun K hK => ?k5) ?m5
  case k5 =>
    go_simp
    refine hK.out _ _ ?s5 (fun hHeld => ?_)
    case s5 => ((try dsimp only); (try trivial))
    clear hK K
    try simp only [Act.put, List.setIfInBounds_toArray, List.set_cons_zero, List.set_cons_succ]
    refine wpAnyH_ready (rs := [4]) (by kernel_rfl) (by simp) ?_
    refine AllReadyH.cons (o := { dst := some 19, op := Go.Op.call { callee := Go.Callee.value (Go.Operand.func 61), args := #[Go.Operand.tmp 18], argTypes := #[27] }, type := 27, pos := "l03_disk.go:159", after := #[{ on := 3, ground := Go.Ground.data }], guard := none }) rfl (fun K hK => ?k6) AllReadyH.nil
    go_simp
    go_at_call 61
    refine (copyBytes_any Ax nx cx lx v0 (hi.more (by omega)) (by omega)).mono ?_
    rintro e w7 ⟨Ay, cy, rfl, y, hb⟩
    have he7 : Eff 0 0 v0 w7 := Eff.of hb
    have hz7 : v0.heap.size ≤ w7.heap.size := he7.size
    have b7 : Below W.heap.size W w7 := b6.trans (he7.below b6.size (by omega))
    replace h := (h.below (he7.below (B := W.heap.size) (by omega) (by omega)) (Nat.le_refl _))
    replace hrc := (hrc.below (he7.below (B := W.heap.size) (by omega) (by omega)) (Nat.le_refl _))
    replace hrw := (hrw.below (he7.below (B := W.heap.size) (by omega) (by omega)) (Nat.le_refl _))
    replace hi := (hi.below (he7.below (B := W.heap.size) (by omega) (by omega)) (Nat.le_refl _))
    replace hD := hD.keep he7 (by omega)
    replace htt := htt.keep he7 (by omega)
    replace res_f0 := (he7.frozen res_0 (by simp only; omega)).trans res_f0
    replace res_f1 := (he7.frozen res_1 (by simp only; omega)).trans res_f1
    replace out_f0 := (he7.frozen out_0 (by simp only; omega)).trans out_f0
    replace out_f1 := (he7.frozen out_1 (by simp only; omega)).trans out_f1
    replace aD_0 := he7.cell aD_0 (by simp only; omega)
    replace aD_1 := he7.cell aD_1 (by simp only; omega)
    replace res_0 := he7.cell res_0 (by simp only; omega)
    replace res_1 := he7.cell res_1 (by simp only; omega)
    replace out_0 := he7.cell out_0 (by simp only; omega)
    replace out_1 := he7.cell out_1 (by simp only; omega)
    replace aD_l := Nat.lt_of_lt_of_le aD_l hz7
    replace res_l := Nat.lt_of_lt_of_le res_l hz7
    replace out_l := Nat.lt_of_lt_of_le out_l hz7
    clear hb
    have y1 := y
    have hey : Eff 0 0 v0 w7 := he7
    refine hK.out _ _ ?s6 (fun hHeld => ?_)
    case s6 => ((try dsimp only); (try trivial))
    clear hK K
    try simp only [Act.put, List.setIfInBounds_toArray, List.set_cons_zero, List.set_cons_succ]
    refine wpAnyH_take (i := 5) (oi := { dst := some 20, op := Go.Op.build 74 #[(0, Go.Operand.tmp 17), (1, Go.Operand.tmp 19)], type := 74, pos := "l03_disk.go:159", after := #[{ on := 2, ground := Go.Ground.data }, { on := 4, ground := Go.Ground.data }], guard := none }) (v := ?v7) rfl (by kernel_rfl) (by kernel_rfl) (by kernel_rfl) (fun _ _ _ h => h) (Or.inl ⟨by rfl, ?y7⟩) (by assumption) ?_
    case y7 => (intro w hSw; (try dsimp only at hSw); go_simp; first | done | with_reducible rfl)
    try simp only [Act.put, List.setIfInBounds_toArray, List.set_cons_zero, List.set_cons_succ]
    refine wpAnyH_ready (rs := [6]) (by kernel_rfl) (by simp) ?_
    refine AllReadyH.cons (o := { dst := some 21, op := Go.Op.buildSlice 31 1 #[(0, Go.Operand.tmp 20)], type := 31, pos := "l03_disk.go:159", after := #[{ on := 5, ground := Go.Ground.data }], guard := none }) rfl (fun K hK => ?k8) AllReadyH.nil
    go_simp
    have he8 : Eff 0 0 w7 (w7.alloc (.cells #[.int .i64 px, .slice Ay nx cy] 74)) := Eff.alloc _ _
    have hs8 : (w7.alloc (.cells #[.int .i64 px, .slice Ay nx cy] 74)).heap.size = w7.heap.size + 1 := (by simp)
    have tr := rd_row w7 [.int .i64 px, .slice Ay nx cy] 74
    generalize (w7.alloc (.cells #[.int .i64 px, .slice Ay nx cy] 74)) = w8 at *
    have hz8 : w7.heap.size ≤ w8.heap.size := he8.size
    have b8 : Below W.heap.size W w8 := b7.trans (he8.below b7.size (by omega))
    replace h := (h.below (he8.below (B := W.heap.size) (by omega) (by omega)) (Nat.le_refl _))
    replace hrc := (hrc.below (he8.below (B := W.heap.size) (by omega) (by omega)) (Nat.le_refl _))
    replace hrw := (hrw.below (he8.below (B := W.heap.size) (by omega) (by omega)) (Nat.le_refl _))
    replace hi := (hi.below (he8.below (B := W.heap.size) (by omega) (by omega)) (Nat.le_refl _))
    replace hD := hD.keep he8 (by omega)
    replace htt := htt.keep he8 (by omega)
    replace y := y.keep he8 (by omega)
    replace res_f0 := (he8.frozen res_0 (by simp only; omega)).trans res_f0
    replace res_f1 := (he8.frozen res_1 (by simp only; omega)).trans res_f1
    replace out_f0 := (he8.frozen out_0 (by simp only; omega)).trans out_f0
    replace out_f1 := (he8.frozen out_1 (by simp only; omega)).trans out_f1
    replace aD_0 := he8.cell aD_0 (by simp only; omega)
    replace aD_1 := he8.cell aD_1 (by simp only; omega)
    replace res_0 := he8.cell res_0 (by simp only; omega)
    replace res_1 := he8.cell res_1 (by simp only; omega)
    replace out_0 := he8.cell out_0 (by simp only; omega)
    replace out_1 := he8.cell out_1 (by simp only; omega)
    replace aD_l := Nat.lt_of_lt_of_le aD_l hz8
    replace res_l := Nat.lt_of_lt_of_le res_l hz8
    replace out_l := Nat.lt_of_lt_of_le out_l hz8
    have heb : Eff 0 0 w7 w8 := he8
    refine hK.out _ _ ?s8 (fun hHeld => ?_)
    case s8 => ((try dsimp only); (try trivial))
    clear hK K
    try simp only [Act.put, List.setIfInBounds_toArray, List.set_cons_zero, List.set_cons_succ]
    refine wpAnyH_ready (rs := [7]) (by kernel_rfl) (by simp) ?_
    refine AllReadyH.cons (o := { dst := some 22, op := Go.Op.call { callee := Go.Callee.builtin Go.Builtin.append, args := #[Go.Operand.tmp 16, Go.Operand.tmp 21], argTypes := #[31, 31] }, type := 31, pos := "l03_disk.go:159", after := #[{ on := 1, ground := Go.Ground.data }, { on := 6, ground := Go.Ground.data }, { on := 4, ground := Go.Ground.chain }], guard := none }) rfl (fun K hK => ?k9) AllReadyH.nil
    refine step_app _ (by rfl) _ _ 31 (by rfl) 74 wi0 (.agg #[.int .i64 0, .slice none 0 0]) 2 32 Try.underlying31 hwi0 hwz0 hwz1 hwz2 rfl (by omega) (by rfl) htt 1 (by rfl) tr (fun u hu => twoR hu rfl rfl) (by unfold maxLen; omega) (by omega) (by omega) ?_
    intro A3 c3 w9 hO hE hK2
    have he9 : Eff ta tb w8 w9 := hE
    have hz9 : w8.heap.size ≤ w9.heap.size := he9.size
    have b9 : Below W.heap.size W w9 := b8.trans (he9.below b8.size (by omega))
    replace h := (h.below (he9.below (B := W.heap.size) (by omega) (by omega)) (Nat.le_refl _))
    replace hrc := (hrc.below (he9.below (B := W.heap.size) (by omega) (by omega)) (Nat.le_refl _))
    replace hrw := (hrw.below (he9.below (B := W.heap.size) (by omega) (by omega)) (Nat.le_refl _))
    replace hi := (hi.below (he9.below (B := W.heap.size) (by omega) (by omega)) (Nat.le_refl _))
    replace hD := hD.keep he9 (by omega)
    replace y := y.keep he9 (by omega)
    replace res_f0 := (he9.frozen res_0 (by simp only; omega)).trans res_f0
    replace res_f1 := (he9.frozen res_1 (by simp only; omega)).trans res_f1
    replace out_f0 := (he9.frozen out_0 (by simp only; omega)).trans out_f0
    replace out_f1 := (he9.frozen out_1 (by simp only; omega)).trans out_f1
    replace aD_0 := he9.cell aD_0 (by simp only; omega)
    replace aD_1 := he9.cell aD_1 (by simp only; omega)
    replace res_0 := he9.cell res_0 (by simp only; omega)
    replace res_1 := he9.cell res_1 (by simp only; omega)
    replace out_0 := he9.cell out_0 (by simp only; omega)
    replace out_1 := he9.cell out_1 (by simp only; omega)
    replace aD_l := Nat.lt_of_lt_of_le aD_l hz9
    replace res_l := Nat.lt_of_lt_of_le res_l hz9
    replace out_l := Nat.lt_of_lt_of_le out_l hz9
    have hOffR := hC.snocOff (y := ⟨px, Ay, nx, cy, lx⟩) y1 (q := H) (Nat.le_refl _) (by omega) htb (by omega) hK2
    replace hC := hC.snoc (y := ⟨px, Ay, nx, cy, lx⟩) hey y1 hta HTQ.out heb hO hE hK2
    clear hE hO hK2 tr htt y y1 hey heb
    refine hK.out _ _ ?s9 (fun hHeld => ?_)
    case s9 => ((try dsimp only); (try trivial))
    clear hK K
    try simp only [Act.put, List.setIfInBounds_toArray, List.set_cons_zero, List.set_cons_succ]
    refine wpAnyH_take (i := 8) (oi := { dst := some 23, op := Go.Op.fieldAddr 33 (Go.Operand.tmp 8) 1, type := 0, pos := "l03_disk.go:159", after := #[{ on := 0, ground := Go.Ground.phase }, { on := 1, ground := Go.Ground.phase }, { on := 2, ground := Go.Ground.phase }, { on := 3, ground := Go.Ground.phase }, { on := 4, ground := Go.Ground.phase }, { on := 5, ground := Go.Ground.phase }, { on := 6, ground := Go.Ground.phase }, { on := 7, ground := Go.Ground.phase }], guard := none }) (v := ?v10) rfl (by kernel_rfl) (by kernel_rfl) (by kernel_rfl) (fun _ _ _ h => h) (Or.inl ⟨by rfl, ?y10⟩) (by assumption) ?_
    case y10 => (intro w hSw; (try dsimp only at hSw); go_simp; first | done | with_reducible rfl)
    try simp only [Act.put, List.setIfInBounds_toArray, List.set_cons_zero, List.set_cons_succ]
    refine wpAnyH_ready (rs := [9]) (by kernel_rfl) (by simp) ?_
    refine AllReadyH.cons (o := { dst := none, op := Go.Op.store 31 (Go.Operand.tmp 23) (Go.Operand.tmp 22), type := 0, pos := "l03_disk.go:159", after := #[{ on := 8, ground := Go.Ground.data }, { on := 7, ground := Go.Ground.data }, { on := 7, ground := Go.Ground.chain }, { on := 0, ground := Go.Ground.phase }, { on := 1, ground := Go.Ground.phase }, { on := 2, ground := Go.Ground.phase }, { on := 3, ground := Go.Ground.phase }, { on := 4, ground := Go.Ground.phase }, { on := 5, ground := Go.Ground.phase }, { on := 6, ground := Go.Ground.phase }, { on := 7, ground := Go.Ground.phase }], guard := none }) rfl (fun K hK => ?k11) AllReadyH.nil
    go_simp
    refine hK.out _ _ ?s11 (fun hHeld => ?_)
    case s11 => ((try dsimp only); (try trivial))
    clear hK K
    try simp only [Act.put]
    refine wpAnyH_done (by kernel_rfl) ?_ _
    have hsst : (w9.setCell ⟨H, 1, none⟩ (.slice A3 (nw + 1) c3)).heap.size = w9.heap.size := (by simp)
    have hOff2 := hOffR
    replace hC := hC.keepOff hOffR (eff_set w9 H 1 (.slice A3 (nw + 1) c3))
    have hsst : (w9.setCell ⟨H, 1, none⟩ (.slice A3 (nw + 1) c3)).heap.size = w9.heap.size := (by simp)
    replace hC := hC.wide (hi' := (w9.setCell ⟨H, 1, none⟩ (.slice A3 (nw + 1) c3)).heap.size) (Nat.le_refl _) (Nat.le_of_eq hsst.symm) (Nat.le_refl _)
    have he10 : Eff (H) (H + 1) w9 (w9.setCell ⟨H, 1, none⟩ (.slice A3 (nw + 1) c3)) := eff_set _ _ _ _
    replace res_f0 := (he10.frozen res_0 (by simp only; omega)).trans res_f0
    replace res_f1 := (he10.frozen res_1 (by simp only; omega)).trans res_f1
    replace out_f0 := set_frozen (p := ⟨H, 1, none⟩) out_f0 (.slice A3 (nw + 1) c3)
    replace out_f1 := set_frozen (p := ⟨H, 1, none⟩) out_f1 (.slice A3 (nw + 1) c3)
    replace aD_0 := he10.cell aD_0 (by simp only; omega)
    replace aD_1 := he10.cell aD_1 (by simp only; omega)
    replace res_0 := he10.cell res_0 (by simp only; omega)
    replace res_1 := he10.cell res_1 (by simp only; omega)
    replace out_0 := set_other (b' := H) (o' := 1) out_0 (.slice A3 (nw + 1) c3) (.inr (by omega))
    replace out_1 := set_same out_1 (.slice A3 (nw + 1) c3)
    have hz10 : w9.heap.size ≤ (w9.setCell ⟨H, 1, none⟩ (.slice A3 (nw + 1) c3)).heap.size := he10.size
    generalize (w9.setCell ⟨H, 1, none⟩ (.slice A3 (nw + 1) c3)) = w10 at *
    have b10 : Below W.heap.size W w10 := b9.trans (he10.below b9.size (by omega))
    replace h := (h.below (he10.below (B := W.heap.size) (by omega) (by omega)) (Nat.le_refl _))
    replace hrc := (hrc.below (he10.below (B := W.heap.size) (by omega) (by omega)) (Nat.le_refl _))
    replace hrw := (hrw.below (he10.below (B := W.heap.size) (by omega) (by omega)) (Nat.le_refl _))
    replace hi := (hi.below (he10.below (B := W.heap.size) (by omega) (by omega)) (Nat.le_refl _))
    replace hD := hD.keep he10 (by omega)
    replace aD_l := Nat.lt_of_lt_of_le aD_l hz10
    replace res_l := Nat.lt_of_lt_of_le res_l hz10
    replace out_l := Nat.lt_of_lt_of_le out_l hz10
    have QF : Hid ((es ++ [(⟨px, Ay, nx, cy, lx⟩ : Wr)]).map Wr.d = dw ++ [(px, lx)]) := Lib.hid (by rw [List.map_append, QE.out]; rfl)
    have hD1 := hD.lohi
    have hC1 := hC.lohi
    go_wp2_with fail
    refine (impl_DiskOk_d A1 nc c1 A3 (nw + 1) c3 dc (dw ++ [(px, lx)]) w10 ⟨cs, _, hD.rd (by omega), hC.rd (Nat.le_refl _), QD.out, QF.out⟩ HLB2.out).mono ?_
    rintro e w11 ⟨rfl, hb⟩
    have he11 : Eff 0 0 w10 w11 := Eff.of hb
    have hz11 : w10.heap.size ≤ w11.heap.size := he11.size
    have b11 : Below W.heap.size W w11 := b10.trans (he11.below b10.size (by omega))
    replace h := (h.below (he11.below (B := W.heap.size) (by omega) (by omega)) (Nat.le_refl _))
    replace hrc := (hrc.below (he11.below (B := W.heap.size) (by omega) (by omega)) (Nat.le_refl _))
    replace hrw := (hrw.below (he11.below (B := W.heap.size) (by omega) (by omega)) (Nat.le_refl _))
    replace hi := (hi.below (he11.below (B := W.heap.size) (by omega) (by omega)) (Nat.le_refl _))
    replace hD := hD.keep he11 (by omega)
    replace hC := hC.keep he11 (by omega)
    replace res_f0 := (he11.frozen res_0 (by simp only; omega)).trans res_f0
    replace res_f1 := (he11.frozen res_1 (by simp only; omega)).trans res_f1
    replace out_f0 := (he11.frozen out_0 (by simp only; omega)).trans out_f0
    replace out_f1 := (he11.frozen out_1 (by simp only; omega)).trans out_f1
    replace aD_0 := he11.cell aD_0 (by simp only; omega)
    replace aD_1 := he11.cell aD_1 (by simp only; omega)
    replace res_0 := he11.cell res_0 (by simp only; omega)
    replace res_1 := he11.cell res_1 (by simp only; omega)
    replace out_0 := he11.cell out_0 (by simp only; omega)
    replace out_1 := he11.cell out_1 (by simp only; omega)
    replace aD_l := Nat.lt_of_lt_of_le aD_l hz11
    replace res_l := Nat.lt_of_lt_of_le res_l hz11
    replace out_l := Nat.lt_of_lt_of_le out_l hz11
    clear hb
    rw [HOK2.out]
    rcases ok2 with _ | _
    · obtain rfl : RC = [] := by rw [← HRC.out]; rfl
      obtain rfl : RW = [] := by rw [← HRW.out]; rfl
      go_wp2
      refine bodyPost_ret (v := .tuple #[.agg #[.slice none 0 0, .slice none 0 0], .bool false]) (by simp [results, Try.results22, go_sem, *]) rfl ?_
      exact madeDT_no (b11.trans (eff_two.below b11.size (.inl (by omega))))
    · obtain rfl : RC = dc := by rw [← HRC.out]; rfl
      obtain rfl : RW = dw ++ [(px, lx)] := by rw [← HRW.out]; rfl
      go_wp2
      refine bodyPost_ret (v := .tuple #[.agg #[.slice A1 nc c1, .slice A3 (nw + 1) c3], .bool true]) (by simp [results, Try.results22, go_sem, *]) rfl ?_
      exact madeDT_two QD.out QF.out hD (hC.wide (Nat.le_refl _) he11.size (Nat.le_refl _)) b11 (g := W.heap.size + 1) (by omega) (by omega)
  case m5 =>
    refine AllReadyH.cons (o := { dst := some 19, op := Go.Op.call { callee := Go.Callee.value (Go.Operand.func 61), args := #[Go.Operand.tmp 18], argTypes := #[27] }, type := 27, pos := "l03_disk.go:159", after := #[{ on := 3, ground := Go.Ground.data }], guard := none }) rfl (fun K hK => ?k12) AllReadyH.nil
    case k12 =>
      go_simp
      go_at_call 61
      refine (copyBytes_any Ax nx cx lx v0 (hi.more (by omega)) (by omega)).mono ?_
      rintro e w7 ⟨Ay, cy, rfl, y, hb⟩
      have he7 : Eff 0 0 v0 w7 := Eff.of hb
      have hz7 : v0.heap.size ≤ w7.heap.size := he7.size
      have b7 : Below W.heap.size W w7 := b6.trans (he7.below b6.size (by omega))
      replace h := (h.below (he7.below (B := W.heap.size) (by omega) (by omega)) (Nat.le_refl _))
      replace hrc := (hrc.below (he7.below (B := W.heap.size) (by omega) (by omega)) (Nat.le_refl _))
      replace hrw := (hrw.below (he7.below (B := W.heap.size) (by omega) (by omega)) (Nat.le_refl _))
      replace hi := (hi.below (he7.below (B := W.heap.size) (by omega) (by omega)) (Nat.le_refl _))
      replace hD := hD.keep he7 (by omega)
      replace htt := htt.keep he7 (by omega)
      replace res_f0 := (he7.frozen res_0 (by simp only; omega)).trans res_f0
      replace res_f1 := (he7.frozen res_1 (by simp only; omega)).trans res_f1
      replace out_f0 := (he7.frozen out_0 (by simp only; omega)).trans out_f0
      replace out_f1 := (he7.frozen out_1 (by simp only; omega)).trans out_f1
      replace aD_0 := he7.cell aD_0 (by simp only; omega)
      replace aD_1 := he7.cell aD_1 (by simp only; omega)
      replace res_0 := he7.cell res_0 (by simp only; omega)
      replace res_1 := he7.cell res_1 (by simp only; omega)
      replace out_0 := he7.cell out_0 (by simp only; omega)
      replace out_1 := he7.cell out_1 (by simp only; omega)
      replace aD_l := Nat.lt_of_lt_of_le aD_l hz7
      replace res_l := Nat.lt_of_lt_of_le res_l hz7
      replace out_l := Nat.lt_of_lt_of_le out_l hz7
      clear hb
      have y1 := y
      have hey : Eff 0 0 v0 w7 := he7
      refine hK.out _ _ ?s12 (fun hHeld => ?_)
      case s12 => ((try dsimp only); (try trivial))
      clear hK K
      try simp only [Act.put, List.setIfInBounds_toArray, List.set_cons_zero, List.set_cons_succ]
      refine wpAnyH_take (i := 5) (oi := { dst := some 20, op := Go.Op.build 74 #[(0, Go.Operand.tmp 17), (1, Go.Operand.tmp 19)], type := 74, pos := "l03_disk.go:159", after := #[{ on := 2, ground := Go.Ground.data }, { on := 4, ground := Go.Ground.data }], guard := none }) (v := ?v13) rfl (by kernel_rfl) (by kernel_rfl) (by kernel_rfl) (fun _ _ _ h => h) (Or.inl ⟨by rfl, ?y13⟩) (by assumption) ?_
      case y13 => (intro w hSw; (try dsimp only at hSw); go_simp; first | done | with_reducible rfl)
      try simp only [Act.put, List.setIfInBounds_toArray, List.set_cons_zero, List.set_cons_succ]
      refine wpAnyH_ready (rs := [1, 6]) (by kernel_rfl) (by simp) ?_
      refine AllReadyH.cons (o := { dst := some 16, op := Go.Op.load 31 (Go.Operand.tmp 15), type := 31, pos := "l03_disk.go:159", after := #[{ on := 0, ground := Go.Ground.data }], guard := none }) rfl (fun K hK => ?k14) ?m14
      case k14 =>
        go_simp
        refine hK.out _ _ ?s14 (fun hHeld => ?_)
        case s14 => ((try dsimp only); (try trivial))
        clear hK K
        try simp only [Act.put, List.setIfInBounds_toArray, List.set_cons_zero, List.set_cons_succ]
        refine wpAnyH_ready (rs := [6]) (by kernel_rfl) (by simp) ?_
        refine AllReadyH.cons (o := { dst := some 21, op := Go.Op.buildSlice 31 1 #[(0, Go.Operand.tmp 20)], type := 31, pos := "l03_disk.go:159", after := #[{ on := 5, ground := Go.Ground.data }], guard := none }) rfl (fun K hK => ?k15) AllReadyH.nil
        go_simp
        have he8 : Eff 0 0 w7 (w7.alloc (.cells #[.int .i64 px, .slice Ay nx cy] 74)) := Eff.alloc _ _
        have hs8 : (w7.alloc (.cells #[.int .i64 px, .slice Ay nx cy] 74)).heap.size = w7.heap.size + 1 := (by simp)
        have tr := rd_row w7 [.int .i64 px, .slice Ay nx cy] 74
        generalize (w7.alloc (.cells #[.int .i64 px, .slice Ay nx cy] 74)) = w8 at *
        have hz8 : w7.heap.size ≤ w8.heap.size := he8.size
        have b8 : Below W.heap.size W w8 := b7.trans (he8.below b7.size (by omega))
        replace h := (h.below (he8.below (B := W.heap.size) (by omega) (by omega)) (Nat.le_refl _))
        replace hrc := (hrc.below (he8.below (B := W.heap.size) (by omega) (by omega)) (Nat.le_refl _))
        replace hrw := (hrw.below (he8.below (B := W.heap.size) (by omega) (by omega)) (Nat.le_refl _))
        replace hi := (hi.below (he8.below (B := W.heap.size) (by omega) (by omega)) (Nat.le_refl _))
        replace hD := hD.keep he8 (by omega)
        replace htt := htt.keep he8 (by omega)
        replace y := y.keep he8 (by omega)
        replace res_f0 := (he8.frozen res_0 (by simp only; omega)).trans res_f0
        replace res_f1 := (he8.frozen res_1 (by simp only; omega)).trans res_f1
        replace out_f0 := (he8.frozen out_0 (by simp only; omega)).trans out_f0
        replace out_f1 := (he8.frozen out_1 (by simp only; omega)).trans out_f1
        replace aD_0 := he8.cell aD_0 (by simp only; omega)
        replace aD_1 := he8.cell aD_1 (by simp only; omega)
        replace res_0 := he8.cell res_0 (by simp only; omega)
        replace res_1 := he8.cell res_1 (by simp only; omega)
        replace out_0 := he8.cell out_0 (by simp only; omega)
        replace out_1 := he8.cell out_1 (by simp only; omega)
        replace aD_l := Nat.lt_of_lt_of_le aD_l hz8
        replace res_l := Nat.lt_of_lt_of_le res_l hz8
        replace out_l := Nat.lt_of_lt_of_le out_l hz8
        have heb : Eff 0 0 w7 w8 := he8
        refine hK.out _ _ ?s15 (fun hHeld => ?_)
        case s15 => ((try dsimp only); (try trivial))
        clear hK K
        try simp only [Act.put, List.setIfInBounds_toArray, List.set_cons_zero, List.set_cons_succ]
        refine wpAnyH_ready (rs := [7]) (by kernel_rfl) (by simp) ?_
        refine AllReadyH.cons (o := { dst := some 22, op := Go.Op.call { callee := Go.Callee.builtin Go.Builtin.append, args := #[Go.Operand.tmp 16, Go.Operand.tmp 21], argTypes := #[31, 31] }, type := 31, pos := "l03_disk.go:159", after := #[{ on := 1, ground := Go.Ground.data }, { on := 6, ground := Go.Ground.data }, { on := 4, ground := Go.Ground.chain }], guard := none }) rfl (fun K hK => ?k16) AllReadyH.nil
        refine step_app _ (by rfl) _ _ 31 (by rfl) 74 wi0 (.agg #[.int .i64 0, .slice none 0 0]) 2 32 Try.underlying31 hwi0 hwz0 hwz1 hwz2 rfl (by omega) (by rfl) htt 1 (by rfl) tr (fun u hu => twoR hu rfl rfl) (by unfold maxLen; omega) (by omega) (by omega) ?_
        intro A3 c3 w9 hO hE hK2
        have he9 : Eff ta tb w8 w9 := hE
        have hz9 : w8.heap.size ≤ w9.heap.size := he9.size
        have b9 : Below W.heap.size W w9 := b8.trans (he9.below b8.size (by omega))
        replace h := (h.below (he9.below (B := W.heap.size) (by omega) (by omega)) (Nat.le_refl _))
        replace hrc := (hrc.below (he9.below (B := W.heap.size) (by omega) (by omega)) (Nat.le_refl _))
        replace hrw := (hrw.below (he9.below (B := W.heap.size) (by omega) (by omega)) (Nat.le_refl _))
        replace hi := (hi.below (he9.below (B := W.heap.size) (by omega) (by omega)) (Nat.le_refl _))
        replace hD := hD.keep he9 (by omega)
        replace y := y.keep he9 (by omega)
        replace res_f0 := (he9.frozen res_0 (by simp only; omega)).trans res_f0
        replace res_f1 := (he9.frozen res_1 (by simp only; omega)).trans res_f1
        replace out_f0 := (he9.frozen out_0 (by simp only; omega)).trans out_f0
        replace out_f1 := (he9.frozen out_1 (by simp only; omega)).trans out_f1
        replace aD_0 := he9.cell aD_0 (by simp only; omega)
        replace aD_1 := he9.cell aD_1 (by simp only; omega)
        replace res_0 := he9.cell res_0 (by simp only; omega)
        replace res_1 := he9.cell res_1 (by simp only; omega)
        replace out_0 := he9.cell out_0 (by simp only; omega)
        replace out_1 := he9.cell out_1 (by simp only; omega)
        replace aD_l := Nat.lt_of_lt_of_le aD_l hz9
        replace res_l := Nat.lt_of_lt_of_le res_l hz9
        replace out_l := Nat.lt_of_lt_of_le out_l hz9
        have hOffR := hC.snocOff (y := ⟨px, Ay, nx, cy, lx⟩) y1 (q := H) (Nat.le_refl _) (by omega) htb (by omega) hK2
        replace hC := hC.snoc (y := ⟨px, Ay, nx, cy, lx⟩) hey y1 hta HTQ.out heb hO hE hK2
        clear hE hO hK2 tr htt y y1 hey heb
        refine hK.out _ _ ?s16 (fun hHeld => ?_)
        case s16 => ((try dsimp only); (try trivial))
        clear hK K
        try simp only [Act.put, List.setIfInBounds_toArray, List.set_cons_zero, List.set_cons_succ]
        refine wpAnyH_take (i := 8) (oi := { dst := some 23, op := Go.Op.fieldAddr 33 (Go.Operand.tmp 8) 1, type := 0, pos := "l03_disk.go:159", after := #[{ on := 0, ground := Go.Ground.phase }, { on := 1, ground := Go.Ground.phase }, { on := 2, ground := Go.Ground.phase }, { on := 3, ground := Go.Ground.phase }, { on := 4, ground := Go.Ground.phase }, { on := 5, ground := Go.Ground.phase }, { on := 6, ground := Go.Ground.phase }, { on := 7, ground := Go.Ground.phase }], guard := none }) (v := ?v17) rfl (by kernel_rfl) (by kernel_rfl) (by kernel_rfl) (fun _ _ _ h => h) (Or.inl ⟨by rfl, ?y17⟩) (by assumption) ?_
        case y17 => (intro w hSw; (try dsimp only at hSw); go_simp; first | done | with_reducible rfl)
        try simp only [Act.put, List.setIfInBounds_toArray, List.set_cons_zero, List.set_cons_succ]
        refine wpAnyH_ready (rs := [9]) (by kernel_rfl) (by simp) ?_
        refine AllReadyH.cons (o := { dst := none, op := Go.Op.store 31 (Go.Operand.tmp 23) (Go.Operand.tmp 22), type := 0, pos := "l03_disk.go:159", after := #[{ on := 8, ground := Go.Ground.data }, { on := 7, ground := Go.Ground.data }, { on := 7, ground := Go.Ground.chain }, { on := 0, ground := Go.Ground.phase }, { on := 1, ground := Go.Ground.phase }, { on := 2, ground := Go.Ground.phase }, { on := 3, ground := Go.Ground.phase }, { on := 4, ground := Go.Ground.phase }, { on := 5, ground := Go.Ground.phase }, { on := 6, ground := Go.Ground.phase }, { on := 7, ground := Go.Ground.phase }], guard := none }) rfl (fun K hK => ?k18) AllReadyH.nil
        go_simp
        refine hK.out _ _ ?s18 (fun hHeld => ?_)
        case s18 => ((try dsimp only); (try trivial))
        clear hK K
        try simp only [Act.put]
        refine wpAnyH_done (by kernel_rfl) ?_ _
        have hsst : (w9.setCell ⟨H, 1, none⟩ (.slice A3 (nw + 1) c3)).heap.size = w9.heap.size := (by simp)
        have hOff2 := hOffR
        replace hC := hC.keepOff hOffR (eff_set w9 H 1 (.slice A3 (nw + 1) c3))
        have hsst : (w9.setCell ⟨H, 1, none⟩ (.slice A3 (nw + 1) c3)).heap.size = w9.heap.size := (by simp)
        replace hC := hC.wide (hi' := (w9.setCell ⟨H, 1, none⟩ (.slice A3 (nw + 1) c3)).heap.size) (Nat.le_refl _) (Nat.le_of_eq hsst.symm) (Nat.le_refl _)
        have he10 : Eff (H) (H + 1) w9 (w9.setCell ⟨H, 1, none⟩ (.slice A3 (nw + 1) c3)) := eff_set _ _ _ _
        replace res_f0 := (he10.frozen res_0 (by simp only; omega)).trans res_f0
        replace res_f1 := (he10.frozen res_1 (by simp only; omega)).trans res_f1
        replace out_f0 := set_frozen (p := ⟨H, 1, none⟩) out_f0 (.slice A3 (nw + 1) c3)
        replace out_f1 := set_frozen (p := ⟨H, 1, none⟩) out_f1 (.slice A3 (nw + 1) c3)
        replace aD_0 := he10.cell aD_0 (by simp only; omega)
        replace aD_1 := he10.cell aD_1 (by simp only; omega)
        replace res_0 := he10.cell res_0 (by simp only; omega)
        replace res_1 := he10.cell res_1 (by simp only; omega)
        replace out_0 := set_other (b' := H) (o' := 1) out_0 (.slice A3 (nw + 1) c3) (.inr (by omega))
        replace out_1 := set_same out_1 (.slice A3 (nw + 1) c3)
        have hz10 : w9.heap.size ≤ (w9.setCell ⟨H, 1, none⟩ (.slice A3 (nw + 1) c3)).heap.size := he10.size
        generalize (w9.setCell ⟨H, 1, none⟩ (.slice A3 (nw + 1) c3)) = w10 at *
        have b10 : Below W.heap.size W w10 := b9.trans (he10.below b9.size (by omega))
        replace h := (h.below (he10.below (B := W.heap.size) (by omega) (by omega)) (Nat.le_refl _))
        replace hrc := (hrc.below (he10.below (B := W.heap.size) (by omega) (by omega)) (Nat.le_refl _))
        replace hrw := (hrw.below (he10.below (B := W.heap.size) (by omega) (by omega)) (Nat.le_refl _))
        replace hi := (hi.below (he10.below (B := W.heap.size) (by omega) (by omega)) (Nat.le_refl _))
        replace hD := hD.keep he10 (by omega)
        replace aD_l := Nat.lt_of_lt_of_le aD_l hz10
        replace res_l := Nat.lt_of_lt_of_le res_l hz10
        replace out_l := Nat.lt_of_lt_of_le out_l hz10
        have QF : Hid ((es ++ [(⟨px, Ay, nx, cy, lx⟩ : Wr)]).map Wr.d = dw ++ [(px, lx)]) := Lib.hid (by rw [List.map_append, QE.out]; rfl)
        have hD1 := hD.lohi
        have hC1 := hC.lohi
        go_wp2_with fail
        refine (impl_DiskOk_d A1 nc c1 A3 (nw + 1) c3 dc (dw ++ [(px, lx)]) w10 ⟨cs, _, hD.rd (by omega), hC.rd (Nat.le_refl _), QD.out, QF.out⟩ HLB2.out).mono ?_
        rintro e w11 ⟨rfl, hb⟩
        have he11 : Eff 0 0 w10 w11 := Eff.of hb
        have hz11 : w10.heap.size ≤ w11.heap.size := he11.size
        have b11 : Below W.heap.size W w11 := b10.trans (he11.below b10.size (by omega))
        replace h := (h.below (he11.below (B := W.heap.size) (by omega) (by omega)) (Nat.le_refl _))
        replace hrc := (hrc.below (he11.below (B := W.heap.size) (by omega) (by omega)) (Nat.le_refl _))
        replace hrw := (hrw.below (he11.below (B := W.heap.size) (by omega) (by omega)) (Nat.le_refl _))
        replace hi := (hi.below (he11.below (B := W.heap.size) (by omega) (by omega)) (Nat.le_refl _))
        replace hD := hD.keep he11 (by omega)
        replace hC := hC.keep he11 (by omega)
        replace res_f0 := (he11.frozen res_0 (by simp only; omega)).trans res_f0
        replace res_f1 := (he11.frozen res_1 (by simp only; omega)).trans res_f1
        replace out_f0 := (he11.frozen out_0 (by simp only; omega)).trans out_f0
        replace out_f1 := (he11.frozen out_1 (by simp only; omega)).trans out_f1
        replace aD_0 := he11.cell aD_0 (by simp only; omega)
        replace aD_1 := he11.cell aD_1 (by simp only; omega)
        replace res_0 := he11.cell res_0 (by simp only; omega)
        replace res_1 := he11.cell res_1 (by simp only; omega)
        replace out_0 := he11.cell out_0 (by simp only; omega)
        replace out_1 := he11.cell out_1 (by simp only; omega)
        replace aD_l := Nat.lt_of_lt_of_le aD_l hz11
        replace res_l := Nat.lt_of_lt_of_le res_l hz11
        replace out_l := Nat.lt_of_lt_of_le out_l hz11
        clear hb
        rw [HOK2.out]
        rcases ok2 with _ | _
        · obtain rfl : RC = [] := by rw [← HRC.out]; rfl
          obtain rfl : RW = [] := by rw [← HRW.out]; rfl
          go_wp2
          refine bodyPost_ret (v := .tuple #[.agg #[.slice none 0 0, .slice none 0 0], .bool false]) (by simp [results, Try.results22, go_sem, *]) rfl ?_
          exact madeDT_no (b11.trans (eff_two.below b11.size (.inl (by omega))))
        · obtain rfl : RC = dc := by rw [← HRC.out]; rfl
          obtain rfl : RW = dw ++ [(px, lx)] := by rw [← HRW.out]; rfl
          go_wp2
          refine bodyPost_ret (v := .tuple #[.agg #[.slice A1 nc c1, .slice A3 (nw + 1) c3], .bool true]) (by simp [results, Try.results22, go_sem, *]) rfl ?_
          exact madeDT_two QD.out QF.out hD (hC.wide (Nat.le_refl _) he11.size (Nat.le_refl _)) b11 (g := W.heap.size + 1) (by omega) (by omega)
      case m14 =>
        refine AllReadyH.cons (o := { dst := some 21, op := Go.Op.buildSlice 31 1 #[(0, Go.Operand.tmp 20)], type := 31, pos := "l03_disk.go:159", after := #[{ on := 5, ground := Go.Ground.data }], guard := none }) rfl (fun K hK => ?k19) AllReadyH.nil
        case k19 =>
          go_simp
          have he8 : Eff 0 0 w7 (w7.alloc (.cells #[.int .i64 px, .slice Ay nx cy] 74)) := Eff.alloc _ _
          have hs8 : (w7.alloc (.cells #[.int .i64 px, .slice Ay nx cy] 74)).heap.size = w7.heap.size + 1 := (by simp)
          have tr := rd_row w7 [.int .i64 px, .slice Ay nx cy] 74
          generalize (w7.alloc (.cells #[.int .i64 px, .slice Ay nx cy] 74)) = w8 at *
          have hz8 : w7.heap.size ≤ w8.heap.size := he8.size
          have b8 : Below W.heap.size W w8 := b7.trans (he8.below b7.size (by omega))
          replace h := (h.below (he8.below (B := W.heap.size) (by omega) (by omega)) (Nat.le_refl _))
          replace hrc := (hrc.below (he8.below (B := W.heap.size) (by omega) (by omega)) (Nat.le_refl _))
          replace hrw := (hrw.below (he8.below (B := W.heap.size) (by omega) (by omega)) (Nat.le_refl _))
          replace hi := (hi.below (he8.below (B := W.heap.size) (by omega) (by omega)) (Nat.le_refl _))
          replace hD := hD.keep he8 (by omega)
          replace htt := htt.keep he8 (by omega)
          replace y := y.keep he8 (by omega)
          replace res_f0 := (he8.frozen res_0 (by simp only; omega)).trans res_f0
          replace res_f1 := (he8.frozen res_1 (by simp only; omega)).trans res_f1
          replace out_f0 := (he8.frozen out_0 (by simp only; omega)).trans out_f0
          replace out_f1 := (he8.frozen out_1 (by simp only; omega)).trans out_f1
          replace aD_0 := he8.cell aD_0 (by simp only; omega)
          replace aD_1 := he8.cell aD_1 (by simp only; omega)
          replace res_0 := he8.cell res_0 (by simp only; omega)
          replace res_1 := he8.cell res_1 (by simp only; omega)
          replace out_0 := he8.cell out_0 (by simp only; omega)
          replace out_1 := he8.cell out_1 (by simp only; omega)
          replace aD_l := Nat.lt_of_lt_of_le aD_l hz8
          replace res_l := Nat.lt_of_lt_of_le res_l hz8
          replace out_l := Nat.lt_of_lt_of_le out_l hz8
          have heb : Eff 0 0 w7 w8 := he8
          refine hK.out _ _ ?s19 (fun hHeld => ?_)
          case s19 => ((try dsimp only); (try trivial))
          clear hK K
          try simp only [Act.put, List.setIfInBounds_toArray, List.set_cons_zero, List.set_cons_succ]
          refine wpAnyH_ready (rs := [1]) (by kernel_rfl) (by simp) ?_
          refine AllReadyH.cons (o := { dst := some 16, op := Go.Op.load 31 (Go.Operand.tmp 15), type := 31, pos := "l03_disk.go:159", after := #[{ on := 0, ground := Go.Ground.data }], guard := none }) rfl (fun K hK => ?k20) AllReadyH.nil
          go_simp
          refine hK.out _ _ ?s20 (fun hHeld => ?_)
          case s20 => ((try dsimp only); (try trivial))
          clear hK K
          try simp only [Act.put, List.setIfInBounds_toArray, List.set_cons_zero, List.set_cons_succ]
          refine wpAnyH_ready (rs := [7]) (by kernel_rfl) (by simp) ?_
          refine AllReadyH.cons (o := { dst := some 22, op := Go.Op.call { callee := Go.Callee.builtin Go.Builtin.append, args := #[Go.Operand.tmp 16, Go.Operand.tmp 21], argTypes := #[31, 31] }, type := 31, pos := "l03_disk.go:159", after := #[{ on := 1, ground := Go.Ground.data }, { on := 6, ground := Go.Ground.data }, { on := 4, ground := Go.Ground.chain }], guard := none }) rfl (fun K hK => ?k21) AllReadyH.nil
          refine step_app _ (by rfl) _ _ 31 (by rfl) 74 wi0 (.agg #[.int .i64 0, .slice none 0 0]) 2 32 Try.underlying31 hwi0 hwz0 hwz1 hwz2 rfl (by omega) (by rfl) htt 1 (by rfl) tr (fun u hu => twoR hu rfl rfl) (by unfold maxLen; omega) (by omega) (by omega) ?_
          intro A3 c3 w9 hO hE hK2
          have he9 : Eff ta tb w8 w9 := hE
          have hz9 : w8.heap.size ≤ w9.heap.size := he9.size
          have b9 : Below W.heap.size W w9 := b8.trans (he9.below b8.size (by omega))
          replace h := (h.below (he9.below (B := W.heap.size) (by omega) (by omega)) (Nat.le_refl _))
          replace hrc := (hrc.below (he9.below (B := W.heap.size) (by omega) (by omega)) (Nat.le_refl _))
          replace hrw := (hrw.below (he9.below (B := W.heap.size) (by omega) (by omega)) (Nat.le_refl _))
          replace hi := (hi.below (he9.below (B := W.heap.size) (by omega) (by omega)) (Nat.le_refl _))
          replace hD := hD.keep he9 (by omega)
          replace y := y.keep he9 (by omega)
          replace res_f0 := (he9.frozen res_0 (by simp only; omega)).trans res_f0
          replace res_f1 := (he9.frozen res_1 (by simp only; omega)).trans res_f1
          replace out_f0 := (he9.frozen out_0 (by simp only; omega)).trans out_f0
          replace out_f1 := (he9.frozen out_1 (by simp only; omega)).trans out_f1
          replace aD_0 := he9.cell aD_0 (by simp only; omega)
          replace aD_1 := he9.cell aD_1 (by simp only; omega)
          replace res_0 := he9.cell res_0 (by simp only; omega)
          replace res_1 := he9.cell res_1 (by simp only; omega)
          replace out_0 := he9.cell out_0 (by simp only; omega)
          replace out_1 := he9.cell out_1 (by simp only; omega)
          replace aD_l := Nat.lt_of_lt_of_le aD_l hz9
          replace res_l := Nat.lt_of_lt_of_le res_l hz9
          replace out_l := Nat.lt_of_lt_of_le out_l hz9
          have hOffR := hC.snocOff (y := ⟨px, Ay, nx, cy, lx⟩) y1 (q := H) (Nat.le_refl _) (by omega) htb (by omega) hK2
          replace hC := hC.snoc (y := ⟨px, Ay, nx, cy, lx⟩) hey y1 hta HTQ.out heb hO hE hK2
          clear hE hO hK2 tr htt y y1 hey heb
          refine hK.out _ _ ?s21 (fun hHeld => ?_)
          case s21 => ((try dsimp only); (try trivial))
          clear hK K
          try simp only [Act.put, List.setIfInBounds_toArray, List.set_cons_zero, List.set_cons_succ]
          refine wpAnyH_take (i := 8) (oi := { dst := some 23, op := Go.Op.fieldAddr 33 (Go.Operand.tmp 8) 1, type := 0, pos := "l03_disk.go:159", after := #[{ on := 0, ground := Go.Ground.phase }, { on := 1, ground := Go.Ground.phase }, { on := 2, ground := Go.Ground.phase }, { on := 3, ground := Go.Ground.phase }, { on := 4, ground := Go.Ground.phase }, { on := 5, ground := Go.Ground.phase }, { on := 6, ground := Go.Ground.phase }, { on := 7, ground := Go.Ground.phase }], guard := none }) (v := ?v22) rfl (by kernel_rfl) (by kernel_rfl) (by kernel_rfl) (fun _ _ _ h => h) (Or.inl ⟨by rfl, ?y22⟩) (by assumption) ?_
          case y22 => (intro w hSw; (try dsimp only at hSw); go_simp; first | done | with_reducible rfl)
          try simp only [Act.put, List.setIfInBounds_toArray, List.set_cons_zero, List.set_cons_succ]
          refine wpAnyH_ready (rs := [9]) (by kernel_rfl) (by simp) ?_
          refine AllReadyH.cons (o := { dst := none, op := Go.Op.store 31 (Go.Operand.tmp 23) (Go.Operand.tmp 22), type := 0, pos := "l03_disk.go:159", after := #[{ on := 8, ground := Go.Ground.data }, { on := 7, ground := Go.Ground.data }, { on := 7, ground := Go.Ground.chain }, { on := 0, ground := Go.Ground.phase }, { on := 1, ground := Go.Ground.phase }, { on := 2, ground := Go.Ground.phase }, { on := 3, ground := Go.Ground.phase }, { on := 4, ground := Go.Ground.phase }, { on := 5, ground := Go.Ground.phase }, { on := 6, ground := Go.Ground.phase }, { on := 7, ground := Go.Ground.phase }], guard := none }) rfl (fun K hK => ?k23) AllReadyH.nil
          go_simp
          refine hK.out _ _ ?s23 (fun hHeld => ?_)
          case s23 => ((try dsimp only); (try trivial))
          clear hK K
          try simp only [Act.put]
          refine wpAnyH_done (by kernel_rfl) ?_ _
          have hsst : (w9.setCell ⟨H, 1, none⟩ (.slice A3 (nw + 1) c3)).heap.size = w9.heap.size := (by simp)
          have hOff2 := hOffR
          replace hC := hC.keepOff hOffR (eff_set w9 H 1 (.slice A3 (nw + 1) c3))
          have hsst : (w9.setCell ⟨H, 1, none⟩ (.slice A3 (nw + 1) c3)).heap.size = w9.heap.size := (by simp)
          replace hC := hC.wide (hi' := (w9.setCell ⟨H, 1, none⟩ (.slice A3 (nw + 1) c3)).heap.size) (Nat.le_refl _) (Nat.le_of_eq hsst.symm) (Nat.le_refl _)
          have he10 : Eff (H) (H + 1) w9 (w9.setCell ⟨H, 1, none⟩ (.slice A3 (nw + 1) c3)) := eff_set _ _ _ _
          replace res_f0 := (he10.frozen res_0 (by simp only; omega)).trans res_f0
          replace res_f1 := (he10.frozen res_1 (by simp only; omega)).trans res_f1
          replace out_f0 := set_frozen (p := ⟨H, 1, none⟩) out_f0 (.slice A3 (nw + 1) c3)
          replace out_f1 := set_frozen (p := ⟨H, 1, none⟩) out_f1 (.slice A3 (nw + 1) c3)
          replace aD_0 := he10.cell aD_0 (by simp only; omega)
          replace aD_1 := he10.cell aD_1 (by simp only; omega)
          replace res_0 := he10.cell res_0 (by simp only; omega)
          replace res_1 := he10.cell res_1 (by simp only; omega)
          replace out_0 := set_other (b' := H) (o' := 1) out_0 (.slice A3 (nw + 1) c3) (.inr (by omega))
          replace out_1 := set_same out_1 (.slice A3 (nw + 1) c3)
          have hz10 : w9.heap.size ≤ (w9.setCell ⟨H, 1, none⟩ (.slice A3 (nw + 1) c3)).heap.size := he10.size
          generalize (w9.setCell ⟨H, 1, none⟩ (.slice A3 (nw + 1) c3)) = w10 at *
          have b10 : Below W.heap.size W w10 := b9.trans (he10.below b9.size (by omega))
          replace h := (h.below (he10.below (B := W.heap.size) (by omega) (by omega)) (Nat.le_refl _))
          replace hrc := (hrc.below (he10.below (B := W.heap.size) (by omega) (by omega)) (Nat.le_refl _))
          replace hrw := (hrw.below (he10.below (B := W.heap.size) (by omega) (by omega)) (Nat.le_refl _))
          replace hi := (hi.below (he10.below (B := W.heap.size) (by omega) (by omega)) (Nat.le_refl _))
          replace hD := hD.keep he10 (by omega)
          replace aD_l := Nat.lt_of_lt_of_le aD_l hz10
          replace res_l := Nat.lt_of_lt_of_le res_l hz10
          replace out_l := Nat.lt_of_lt_of_le out_l hz10
          have QF : Hid ((es ++ [(⟨px, Ay, nx, cy, lx⟩ : Wr)]).map Wr.d = dw ++ [(px, lx)]) := Lib.hid (by rw [List.map_append, QE.out]; rfl)
          have hD1 := hD.lohi
          have hC1 := hC.lohi
          go_wp2_with fail
          refine (impl_DiskOk_d A1 nc c1 A3 (nw + 1) c3 dc (dw ++ [(px, lx)]) w10 ⟨cs, _, hD.rd (by omega), hC.rd (Nat.le_refl _), QD.out, QF.out⟩ HLB2.out).mono ?_
          rintro e w11 ⟨rfl, hb⟩
          have he11 : Eff 0 0 w10 w11 := Eff.of hb
          have hz11 : w10.heap.size ≤ w11.heap.size := he11.size
          have b11 : Below W.heap.size W w11 := b10.trans (he11.below b10.size (by omega))
          replace h := (h.below (he11.below (B := W.heap.size) (by omega) (by omega)) (Nat.le_refl _))
          replace hrc := (hrc.below (he11.below (B := W.heap.size) (by omega) (by omega)) (Nat.le_refl _))
          replace hrw := (hrw.below (he11.below (B := W.heap.size) (by omega) (by omega)) (Nat.le_refl _))
          replace hi := (hi.below (he11.below (B := W.heap.size) (by omega) (by omega)) (Nat.le_refl _))
          replace hD := hD.keep he11 (by omega)
          replace hC := hC.keep he11 (by omega)
          replace res_f0 := (he11.frozen res_0 (by simp only; omega)).trans res_f0
          replace res_f1 := (he11.frozen res_1 (by simp only; omega)).trans res_f1
          replace out_f0 := (he11.frozen out_0 (by simp only; omega)).trans out_f0
          replace out_f1 := (he11.frozen out_1 (by simp only; omega)).trans out_f1
          replace aD_0 := he11.cell aD_0 (by simp only; omega)
          replace aD_1 := he11.cell aD_1 (by simp only; omega)
          replace res_0 := he11.cell res_0 (by simp only; omega)
          replace res_1 := he11.cell res_1 (by simp only; omega)
          replace out_0 := he11.cell out_0 (by simp only; omega)
          replace out_1 := he11.cell out_1 (by simp only; omega)
          replace aD_l := Nat.lt_of_lt_of_le aD_l hz11
          replace res_l := Nat.lt_of_lt_of_le res_l hz11
          replace out_l := Nat.lt_of_lt_of_le out_l hz11
          clear hb
          rw [HOK2.out]
          rcases ok2 with _ | _
          · obtain rfl : RC = [] := by rw [← HRC.out]; rfl
            obtain rfl : RW = [] := by rw [← HRW.out]; rfl
            go_wp2
            refine bodyPost_ret (v := .tuple #[.agg #[.slice none 0 0, .slice none 0 0], .bool false]) (by simp [results, Try.results22, go_sem, *]) rfl ?_
            exact madeDT_no (b11.trans (eff_two.below b11.size (.inl (by omega))))
          · obtain rfl : RC = dc := by rw [← HRC.out]; rfl
            obtain rfl : RW = dw ++ [(px, lx)] := by rw [← HRW.out]; rfl
            go_wp2
            refine bodyPost_ret (v := .tuple #[.agg #[.slice A1 nc c1, .slice A3 (nw + 1) c3], .bool true]) (by simp [results, Try.results22, go_sem, *]) rfl ?_
            exact madeDT_two QD.out QF.out hD (hC.wide (Nat.le_refl _) he11.size (Nat.le_refl _)) b11 (g := W.heap.size + 1) (by omega) (by omega)
set_option maxHeartbeats 8000000 in
set_option maxRecDepth 100000 in
theorem spec_DiskWrite_d (Ac : Option Addr) (nc cc : Nat) (Aw : Option Addr) (nw cw : Nat) (dc : List (List UInt8)) (dw : List (Int × List UInt8)) (px : Int) (Ax : Option Addr) (nx cx : Nat) (lx : List UInt8) (W : World) (h : RdDk W W.heap.size Ac nc Aw nw dc dw) (LB : lenB dc dw) (hi : Rd W W.heap.size 1 Ax nx (Lib.byteCells lx)) (hnx : nx ≤ 1048576) :
    Calls Try.prog 20 #[.agg #[.slice Ac nc cc, .slice Aw nw cw], .int .i64 px, .slice Ax nx cx] W (MadeDT (if dwrOk dc dw px lx then dc else []) (if dwrOk dc dw px lx then dw ++ [(px, lx)] else []) (dwrOk dc dw px lx) W) := by
  have hlc := h.len.1
  have hlw := h.len.2
  have hncb : nc ≤ 1048576 := by have := LB.1; omega
  have hnwb : nw ≤ 1048576 := by have := LB.2.1; omega
  have hlx : lx.length = nx := len_of_rd hi
  have HLX := Lib.hid hlx
  have HLC := Lib.hid hlc
  have HLW := Lib.hid hlw
  clear hlc hlw hlx
  obtain ⟨wi0, hwi0, hwz0, hwz1, hwz2⟩ := info_parts info_Write
  obtain ⟨u0, hu0, hv0, hv1, hv2⟩ := info_parts info_u8
  obtain ⟨cs0, ws0, hrc, hrw, hdc, hdw⟩ := h
  have HDC := Lib.hid hdc
  have HDW := Lib.hid hdw
  have h : RdDk W W.heap.size Ac nc Aw nw dc dw := ⟨cs0, ws0, hrc, hrw, hdc, hdw⟩
  have hlo : lenOk cs0 ws0 := ⟨fun x hx => by have := ce_len hrc (m := 1048576) (by rw [hdc]; exact LB.2.2.1) x hx; omega, fun x hx => by have := wr_len hrw (m := 1048576) (by rw [hdw]; exact LB.2.2.2) x hx; omega⟩
  have HLO := Lib.hid hlo
  clear hlo hdc hdw
  rcases hok : dkOk dc dw with _ | _
  · rw [show dwrOk dc dw px lx = false by simp [dwrOk, hok]]
    simp only [Bool.false_eq_true, if_false]
    go_enter Try.func20, Try.ntmps20
    go_wp2_with fail
    have he1 : Eff 0 0 W (W.alloc (.cells #[.slice Ac nc cc, .slice Aw nw cw] 33)) := Eff.alloc _ _
    have hs1 : (W.alloc (.cells #[.slice Ac nc cc, .slice Aw nw cw] 33)).heap.size = W.heap.size + 1 := (by simp)
    have aD_0 : (W.alloc (.cells #[.slice Ac nc cc, .slice Aw nw cw] 33)).cell? ⟨W.heap.size, 0, none⟩ = some (.slice Ac nc cc) := var_cell _ _ _ _ _ rfl
    have aD_1 : (W.alloc (.cells #[.slice Ac nc cc, .slice Aw nw cw] 33)).cell? ⟨W.heap.size, 1, none⟩ = some (.slice Aw nw cw) := var_cell _ _ _ _ _ rfl
    generalize (W.alloc (.cells #[.slice Ac nc cc, .slice Aw nw cw] 33)) = w1 at *
    have hz1 : W.heap.size ≤ w1.heap.size := he1.size
    have b1 : Below W.heap.size W w1 := he1.below (Nat.le_refl _) (by omega)
    replace h := (h.below (he1.below (B := W.heap.size) (by omega) (by omega)) (Nat.le_refl _))
    replace hrc := (hrc.below (he1.below (B := W.heap.size) (by omega) (by omega)) (Nat.le_refl _))
    replace hrw := (hrw.below (he1.below (B := W.heap.size) (by omega) (by omega)) (Nat.le_refl _))
    replace hi := (hi.below (he1.below (B := W.heap.size) (by omega) (by omega)) (Nat.le_refl _))
    have aD_l : W.heap.size < w1.heap.size := (by omega)
    have he2 : Eff 0 0 w1 (w1.alloc (.cells #[.slice none 0 0, .slice none 0 0] 33)) := Eff.alloc _ _
    have hs2 : (w1.alloc (.cells #[.slice none 0 0, .slice none 0 0] 33)).heap.size = w1.heap.size + 1 := (by simp)
    have res_0 : (w1.alloc (.cells #[.slice none 0 0, .slice none 0 0] 33)).cell? ⟨w1.heap.size, 0, none⟩ = some (.slice none 0 0) := var_cell _ _ _ _ _ rfl
    have res_1 : (w1.alloc (.cells #[.slice none 0 0, .slice none 0 0] 33)).cell? ⟨w1.heap.size, 1, none⟩ = some (.slice none 0 0) := var_cell _ _ _ _ _ rfl
    have res_f0 : (w1.alloc (.cells #[.slice none 0 0, .slice none 0 0] 33)).frozen? ⟨w1.heap.size, 0, none⟩ = false := var_frozen _ _ _ _
    have res_f1 : (w1.alloc (.cells #[.slice none 0 0, .slice none 0 0] 33)).frozen? ⟨w1.heap.size, 1, none⟩ = false := var_frozen _ _ _ _
    generalize (w1.alloc (.cells #[.slice none 0 0, .slice none 0 0] 33)) = w2 at *
    have hz2 : w1.heap.size ≤ w2.heap.size := he2.size
    have b2 : Below W.heap.size W w2 := b1.trans (he2.below b1.size (by omega))
    replace h := (h.below (he2.below (B := W.heap.size) (by omega) (by omega)) (Nat.le_refl _))
    replace hrc := (hrc.below (he2.below (B := W.heap.size) (by omega) (by omega)) (Nat.le_refl _))
    replace hrw := (hrw.below (he2.below (B := W.heap.size) (by omega) (by omega)) (Nat.le_refl _))
    replace hi := (hi.below (he2.below (B := W.heap.size) (by omega) (by omega)) (Nat.le_refl _))
    replace aD_0 := he2.cell aD_0 (by simp only; omega)
    replace aD_1 := he2.cell aD_1 (by simp only; omega)
    replace aD_l := Nat.lt_of_lt_of_le aD_l hz2
    rw [hs1] at res_0 res_f0
    rw [hs1] at res_1 res_f1
    have res_l : W.heap.size + 1 < w2.heap.size := (by omega)
    refine (spec_DiskOk_d Ac nc cc Aw nw cw dc dw w2 (h.more (by omega)) LB).mono ?_
    rintro e w3 ⟨rfl, hb⟩
    have he3 : Eff 0 0 w2 w3 := Eff.of hb
    have hz3 : w2.heap.size ≤ w3.heap.size := he3.size
    have b3 : Below W.heap.size W w3 := b2.trans (he3.below b2.size (by omega))
    replace h := (h.below (he3.below (B := W.heap.size) (by omega) (by omega)) (Nat.le_refl _))
    replace hrc := (hrc.below (he3.below (B := W.heap.size) (by omega) (by omega)) (Nat.le_refl _))
    replace hrw := (hrw.below (he3.below (B := W.heap.size) (by omega) (by omega)) (Nat.le_refl _))
    replace hi := (hi.below (he3.below (B := W.heap.size) (by omega) (by omega)) (Nat.le_refl _))
    replace res_f0 := (he3.frozen res_0 (by simp only; omega)).trans res_f0
    replace res_f1 := (he3.frozen res_1 (by simp only; omega)).trans res_f1
    replace aD_0 := he3.cell aD_0 (by simp only; omega)
    replace aD_1 := he3.cell aD_1 (by simp only; omega)
    replace res_0 := he3.cell res_0 (by simp only; omega)
    replace res_1 := he3.cell res_1 (by simp only; omega)
    replace aD_l := Nat.lt_of_lt_of_le aD_l hz3
    replace res_l := Nat.lt_of_lt_of_le res_l hz3
    clear hb
    rw [hok]
    go_wp2
    refine bodyPost_ret (v := .tuple #[.agg #[.slice none 0 0, .slice none 0 0], .bool false]) (by simp [results, Try.results20, go_sem, *]) rfl ?_
    exact madeDT_no (b3.trans (eff_two.below b3.size (.inl (by omega))))
  obtain ⟨ok2, hok2⟩ : ∃ ok2, dkOk dc (dw ++ [(px, lx)]) = ok2 := ⟨_, rfl⟩
  rw [show dwrOk dc dw px lx = ok2 by simp [dwrOk, hok, hok2]]
  have LB2 : lenB dc (dw ++ [(px, lx)]) := ⟨LB.1, by have h1 := LB.2.1; have h2 := (dkOk_iff.1 hok).1; simp; omega, LB.2.2.1, fun x hx => by
    rcases List.mem_append.1 hx with hx | hx
    · exact LB.2.2.2 x hx
    · simp at hx; subst hx; have := HLX.out; simp only; omega⟩
  obtain ⟨RC, hRC⟩ : ∃ R, (if ok2 = true then dc else []) = R := ⟨_, rfl⟩
  obtain ⟨RW, hRW⟩ : ∃ R, (if ok2 = true then dw ++ [(px, lx)] else []) = R := ⟨_, rfl⟩
  rw [hRC, hRW]
  have HRC := Lib.hid hRC
  have HRW := Lib.hid hRW
  clear hRC hRW
  have HOK2 := Lib.hid hok2
  have HLB2 := Lib.hid LB2
  have HLB := Lib.hid LB
  clear hok2 LB2 LB
  go_enter Try.func20, Try.ntmps20
  go_wp2_with fail
  have he1 : Eff 0 0 W (W.alloc (.cells #[.slice Ac nc cc, .slice Aw nw cw] 33)) := Eff.alloc _ _
  have hs1 : (W.alloc (.cells #[.slice Ac nc cc, .slice Aw nw cw] 33)).heap.size = W.heap.size + 1 := (by simp)
  have aD_0 : (W.alloc (.cells #[.slice Ac nc cc, .slice Aw nw cw] 33)).cell? ⟨W.heap.size, 0, none⟩ = some (.slice Ac nc cc) := var_cell _ _ _ _ _ rfl
  have aD_1 : (W.alloc (.cells #[.slice Ac nc cc, .slice Aw nw cw] 33)).cell? ⟨W.heap.size, 1, none⟩ = some (.slice Aw nw cw) := var_cell _ _ _ _ _ rfl
  generalize (W.alloc (.cells #[.slice Ac nc cc, .slice Aw nw cw] 33)) = w1 at *
  have hz1 : W.heap.size ≤ w1.heap.size := he1.size
  have b1 : Below W.heap.size W w1 := he1.below (Nat.le_refl _) (by omega)
  replace h := (h.below (he1.below (B := W.heap.size) (by omega) (by omega)) (Nat.le_refl _))
  replace hrc := (hrc.below (he1.below (B := W.heap.size) (by omega) (by omega)) (Nat.le_refl _))
  replace hrw := (hrw.below (he1.below (B := W.heap.size) (by omega) (by omega)) (Nat.le_refl _))
  replace hi := (hi.below (he1.below (B := W.heap.size) (by omega) (by omega)) (Nat.le_refl _))
  have aD_l : W.heap.size < w1.heap.size := (by omega)
  have he2 : Eff 0 0 w1 (w1.alloc (.cells #[.slice none 0 0, .slice none 0 0] 33)) := Eff.alloc _ _
  have hs2 : (w1.alloc (.cells #[.slice none 0 0, .slice none 0 0] 33)).heap.size = w1.heap.size + 1 := (by simp)
  have res_0 : (w1.alloc (.cells #[.slice none 0 0, .slice none 0 0] 33)).cell? ⟨w1.heap.size, 0, none⟩ = some (.slice none 0 0) := var_cell _ _ _ _ _ rfl
  have res_1 : (w1.alloc (.cells #[.slice none 0 0, .slice none 0 0] 33)).cell? ⟨w1.heap.size, 1, none⟩ = some (.slice none 0 0) := var_cell _ _ _ _ _ rfl
  have res_f0 : (w1.alloc (.cells #[.slice none 0 0, .slice none 0 0] 33)).frozen? ⟨w1.heap.size, 0, none⟩ = false := var_frozen _ _ _ _
  have res_f1 : (w1.alloc (.cells #[.slice none 0 0, .slice none 0 0] 33)).frozen? ⟨w1.heap.size, 1, none⟩ = false := var_frozen _ _ _ _
  generalize (w1.alloc (.cells #[.slice none 0 0, .slice none 0 0] 33)) = w2 at *
  have hz2 : w1.heap.size ≤ w2.heap.size := he2.size
  have b2 : Below W.heap.size W w2 := b1.trans (he2.below b1.size (by omega))
  replace h := (h.below (he2.below (B := W.heap.size) (by omega) (by omega)) (Nat.le_refl _))
  replace hrc := (hrc.below (he2.below (B := W.heap.size) (by omega) (by omega)) (Nat.le_refl _))
  replace hrw := (hrw.below (he2.below (B := W.heap.size) (by omega) (by omega)) (Nat.le_refl _))
  replace hi := (hi.below (he2.below (B := W.heap.size) (by omega) (by omega)) (Nat.le_refl _))
  replace aD_0 := he2.cell aD_0 (by simp only; omega)
  replace aD_1 := he2.cell aD_1 (by simp only; omega)
  replace aD_l := Nat.lt_of_lt_of_le aD_l hz2
  rw [hs1] at res_0 res_f0
  rw [hs1] at res_1 res_f1
  have res_l : W.heap.size + 1 < w2.heap.size := (by omega)
  refine (spec_DiskOk_d Ac nc cc Aw nw cw dc dw w2 (h.more (by omega)) HLB.out).mono ?_
  rintro e w3 ⟨rfl, hb⟩
  have he3 : Eff 0 0 w2 w3 := Eff.of hb
  have hz3 : w2.heap.size ≤ w3.heap.size := he3.size
  have b3 : Below W.heap.size W w3 := b2.trans (he3.below b2.size (by omega))
  replace h := (h.below (he3.below (B := W.heap.size) (by omega) (by omega)) (Nat.le_refl _))
  replace hrc := (hrc.below (he3.below (B := W.heap.size) (by omega) (by omega)) (Nat.le_refl _))
  replace hrw := (hrw.below (he3.below (B := W.heap.size) (by omega) (by omega)) (Nat.le_refl _))
  replace hi := (hi.below (he3.below (B := W.heap.size) (by omega) (by omega)) (Nat.le_refl _))
  replace res_f0 := (he3.frozen res_0 (by simp only; omega)).trans res_f0
  replace res_f1 := (he3.frozen res_1 (by simp only; omega)).trans res_f1
  replace aD_0 := he3.cell aD_0 (by simp only; omega)
  replace aD_1 := he3.cell aD_1 (by simp only; omega)
  replace res_0 := he3.cell res_0 (by simp only; omega)
  replace res_1 := he3.cell res_1 (by simp only; omega)
  replace aD_l := Nat.lt_of_lt_of_le aD_l hz3
  replace res_l := Nat.lt_of_lt_of_le res_l hz3
  clear hb
  rw [hok]
  go_wp2_with fail
  refine (spec_l03Copy_any Ac nc cc cs0 Aw nw cw ws0 w3 (hrc.more (by omega)) (hrw.more (by omega)) hncb hnwb HLO.out).mono ?_
  rintro e w4 ⟨A1, n1, c1, A2, n2, c2, cs, es, rfl, qd1, qd2, ⟨m, hD, hC⟩, hb⟩
  have he4 : Eff 0 0 w3 w4 := Eff.of hb
  have hz4 : w3.heap.size ≤ w4.heap.size := he4.size
  have b4 : Below W.heap.size W w4 := b3.trans (he4.below b3.size (by omega))
  replace h := (h.below (he4.below (B := W.heap.size) (by omega) (by omega)) (Nat.le_refl _))
  replace hrc := (hrc.below (he4.below (B := W.heap.size) (by omega) (by omega)) (Nat.le_refl _))
  replace hrw := (hrw.below (he4.below (B := W.heap.size) (by omega) (by omega)) (Nat.le_refl _))
  replace hi := (hi.below (he4.below (B := W.heap.size) (by omega) (by omega)) (Nat.le_refl _))
  replace res_f0 := (he4.frozen res_0 (by simp only; omega)).trans res_f0
  replace res_f1 := (he4.frozen res_1 (by simp only; omega)).trans res_f1
  replace aD_0 := he4.cell aD_0 (by simp only; omega)
  replace aD_1 := he4.cell aD_1 (by simp only; omega)
  replace res_0 := he4.cell res_0 (by simp only; omega)
  replace res_1 := he4.cell res_1 (by simp only; omega)
  replace aD_l := Nat.lt_of_lt_of_le aD_l hz4
  replace res_l := Nat.lt_of_lt_of_le res_l hz4
  clear hb
  have QD := Lib.hid (qd1.trans HDC.out)
  have QE := Lib.hid (qd2.trans HDW.out)
  clear qd1 qd2
  obtain rfl : nc = n1 := by rw [← HLC.out, ← QD.out, List.length_map, hD.len Ce.hf (by omega)]
  obtain rfl : nw = n2 := by rw [← HLW.out, ← QE.out, List.length_map, hC.len Wr.hf (by omega)]
  have hlo1 := hD.lohi
  have hlo2 := hC.lohi
  have hlo3 := hC.le
  obtain ⟨H, hH⟩ : ∃ H, w4.heap.size = H := ⟨_, rfl⟩
  have hC0 : OwnWrite w4 m H A2 nw c2 es := by rw [← hH]; exact hC
  clear hC hlo3
  have hC := hC0
  clear hC0
  go_wp2_with fail
  have he5 : Eff 0 0 w4 (w4.alloc (.cells #[.slice A1 nc c1, .slice A2 nw c2] 33)) := Eff.alloc _ _
  have hs5 : (w4.alloc (.cells #[.slice A1 nc c1, .slice A2 nw c2] 33)).heap.size = w4.heap.size + 1 := (by simp)
  have out_0 : (w4.alloc (.cells #[.slice A1 nc c1, .slice A2 nw c2] 33)).cell? ⟨w4.heap.size, 0, none⟩ = some (.slice A1 nc c1) := var_cell _ _ _ _ _ rfl
  have out_1 : (w4.alloc (.cells #[.slice A1 nc c1, .slice A2 nw c2] 33)).cell? ⟨w4.heap.size, 1, none⟩ = some (.slice A2 nw c2) := var_cell _ _ _ _ _ rfl
  have out_f0 : (w4.alloc (.cells #[.slice A1 nc c1, .slice A2 nw c2] 33)).frozen? ⟨w4.heap.size, 0, none⟩ = false := var_frozen _ _ _ _
  have out_f1 : (w4.alloc (.cells #[.slice A1 nc c1, .slice A2 nw c2] 33)).frozen? ⟨w4.heap.size, 1, none⟩ = false := var_frozen _ _ _ _
  generalize (w4.alloc (.cells #[.slice A1 nc c1, .slice A2 nw c2] 33)) = w5 at *
  have hz5 : w4.heap.size ≤ w5.heap.size := he5.size
  have b5 : Below W.heap.size W w5 := b4.trans (he5.below b4.size (by omega))
  replace h := (h.below (he5.below (B := W.heap.size) (by omega) (by omega)) (Nat.le_refl _))
  replace hrc := (hrc.below (he5.below (B := W.heap.size) (by omega) (by omega)) (Nat.le_refl _))
  replace hrw := (hrw.below (he5.below (B := W.heap.size) (by omega) (by omega)) (Nat.le_refl _))
  replace hi := (hi.below (he5.below (B := W.heap.size) (by omega) (by omega)) (Nat.le_refl _))
  replace hD := hD.keep he5 (by omega)
  replace hC := hC.keep he5 (by omega)
  replace res_f0 := (he5.frozen res_0 (by simp only; omega)).trans res_f0
  replace res_f1 := (he5.frozen res_1 (by simp only; omega)).trans res_f1
  replace aD_0 := he5.cell aD_0 (by simp only; omega)
  replace aD_1 := he5.cell aD_1 (by simp only; omega)
  replace res_0 := he5.cell res_0 (by simp only; omega)
  replace res_1 := he5.cell res_1 (by simp only; omega)
  replace aD_l := Nat.lt_of_lt_of_le aD_l hz5
  replace res_l := Nat.lt_of_lt_of_le res_l hz5
  rw [hH] at out_0 out_f0
  rw [hH] at out_1 out_f1
  have out_l : H < w5.heap.size := (by omega)
  have hHw : H < w5.heap.size := by omega
  go_wp2_with fail
  have he6 : Eff 0 0 w5 w5.drew := (Eff.refl _ _ _).drew
  have hz6 : w5.heap.size ≤ w5.drew.heap.size := he6.size
  have b6 : Below W.heap.size W w5.drew := b5.trans (he6.below b5.size (by omega))
  replace h := (h.below (he6.below (B := W.heap.size) (by omega) (by omega)) (Nat.le_refl _))
  replace hrc := (hrc.below (he6.below (B := W.heap.size) (by omega) (by omega)) (Nat.le_refl _))
  replace hrw := (hrw.below (he6.below (B := W.heap.size) (by omega) (by omega)) (Nat.le_refl _))
  replace hi := (hi.below (he6.below (B := W.heap.size) (by omega) (by omega)) (Nat.le_refl _))
  replace hD := hD.keep he6 (by omega)
  replace hC := hC.keep he6 (by omega)
  replace res_f0 := (he6.frozen res_0 (by simp only; omega)).trans res_f0
  replace res_f1 := (he6.frozen res_1 (by simp only; omega)).trans res_f1
  replace out_f0 := (he6.frozen out_0 (by simp only; omega)).trans out_f0
  replace out_f1 := (he6.frozen out_1 (by simp only; omega)).trans out_f1
  replace aD_0 := he6.cell aD_0 (by simp only; omega)
  replace aD_1 := he6.cell aD_1 (by simp only; omega)
  replace res_0 := he6.cell res_0 (by simp only; omega)
  replace res_1 := he6.cell res_1 (by simp only; omega)
  replace out_0 := he6.cell out_0 (by simp only; omega)
  replace out_1 := he6.cell out_1 (by simp only; omega)
  replace aD_l := Nat.lt_of_lt_of_le aD_l hz6
  replace res_l := Nat.lt_of_lt_of_le res_l hz6
  replace out_l := Nat.lt_of_lt_of_le out_l hz6
  refine wp_region_held_drew (S := fun w' => True) (by kernel_rfl) ?rg24 (fun hHeld => ?_)
  case rg24 => ((try dsimp only); (try trivial))
  generalize w5.drew = v0 at *
  obtain ⟨ta, tb, htt, hta, htab, htb, htq⟩ := Own.tight hC.row hC.lohi
  have HTQ := Lib.hid htq
  clear htq
  refine wpAnyH_take (i := 0) (oi := { dst := some 15, op := Go.Op.fieldAddr 33 (Go.Operand.tmp 8) 1, type := 0, pos := "l03_disk.go:137", after := #[], guard := none }) (v := ?v25) rfl (by kernel_rfl) (by kernel_rfl) (by kernel_rfl) (fun _ _ _ h => h) (Or.inl ⟨by rfl, ?y25⟩) (by assumption) ?_
  case y25 => (intro w hSw; (try dsimp only at hSw); go_simp; first | done | with_reducible rfl)
  try simp only [Act.put, List.setIfInBounds_toArray, List.set_cons_zero, List.set_cons_succ]
  refine wpAnyH_take (i := 2) (oi := { dst := some 17, op := Go.Op.move (Go.Operand.tmp 1), type := 3, pos := "l03_disk.go:137", after := #[], guard := none }) (v := ?v26) rfl (by kernel_rfl) (by kernel_rfl) (by kernel_rfl) (fun _ _ _ h => h) (Or.inl ⟨by rfl, ?y26⟩) (by assumption) ?_
  case y26 => (intro w hSw; (try dsimp only at hSw); go_simp; first | done | with_reducible rfl)
  try simp only [Act.put, List.setIfInBounds_toArray, List.set_cons_zero, List.set_cons_succ]
  refine wpAnyH_take (i := 4) (oi := { dst := some 19, op := Go.Op.move (Go.Operand.tmp 2), type := 27, pos := "l03_disk.go:137", after := #[], guard := none }) (v := ?v27) rfl (by kernel_rfl) (by kernel_rfl) (by kernel_rfl) (fun _ _ _ h => h) (Or.inl ⟨by rfl, ?y27⟩) (by assumption) ?_
  case y27 => (intro w hSw; (try dsimp only at hSw); go_simp; first | done | with_reducible rfl)
  try simp only [Act.put, List.setIfInBounds_toArray, List.set_cons_zero, List.set_cons_succ]
  refine wpAnyH_ready (rs := [1, 3]) (by kernel_rfl) (by simp) ?_
  refine AllReadyH.cons (o := { dst := some 16, op := Go.Op.load 31 (Go.Operand.tmp 15), type := 31, pos := "l03_disk.go:137", after := #[{ on := 0, ground := Go.Ground.data }], guard := none }) rfl (fun K hK => ?k28) ?m28
  case k28 =>
    go_simp
    refine hK.out _ _ ?s28 (fun hHeld => ?_)
    case s28 => ((try dsimp only); (try trivial))
    clear hK K
    try simp only [Act.put, List.setIfInBounds_toArray, List.set_cons_zero, List.set_cons_succ]
    refine wpAnyH_ready (rs := [3]) (by kernel_rfl) (by simp) ?_
    refine AllReadyH.cons (o := { dst := some 18, op := Go.Op.buildSlice 27 0 #[], type := 27, pos := "l03_disk.go:137", after := #[], guard := none }) rfl (fun K hK => ?k29) AllReadyH.nil
    go_simp
    have he7 : Eff 0 0 v0 (v0.alloc (.cells #[] 5)) := Eff.alloc _ _
    have hs7 : (v0.alloc (.cells #[] 5)).heap.size = v0.heap.size + 1 := (by simp)
    have em := new_empty v0 5 1
    generalize (v0.alloc (.cells #[] 5)) = w7 at *
    have hz7 : v0.heap.size ≤ w7.heap.size := he7.size
    have b7 : Below W.heap.size W w7 := b6.trans (he7.below b6.size (by omega))
    replace h := (h.below (he7.below (B := W.heap.size) (by omega) (by omega)) (Nat.le_refl _))
    replace hrc := (hrc.below (he7.below (B := W.heap.size) (by omega) (by omega)) (Nat.le_refl _))
    replace hrw := (hrw.below (he7.below (B := W.heap.size) (by omega) (by omega)) (Nat.le_refl _))
    replace hi := (hi.below (he7.below (B := W.heap.size) (by omega) (by omega)) (Nat.le_refl _))
    replace hD := hD.keep he7 (by omega)
    replace htt := htt.keep he7 (by omega)
    replace res_f0 := (he7.frozen res_0 (by simp only; omega)).trans res_f0
    replace res_f1 := (he7.frozen res_1 (by simp only; omega)).trans res_f1
    replace out_f0 := (he7.frozen out_0 (by simp only; omega)).trans out_f0
    replace out_f1 := (he7.frozen out_1 (by simp only; omega)).trans out_f1
    replace aD_0 := he7.cell aD_0 (by simp only; omega)
    replace aD_1 := he7.cell aD_1 (by simp only; omega)
    replace res_0 := he7.cell res_0 (by simp only; omega)
    replace res_1 := he7.cell res_1 (by simp only; omega)
    replace out_0 := he7.cell out_0 (by simp only; omega)
    replace out_1 := he7.cell out_1 (by simp only; omega)
    replace aD_l := Nat.lt_of_lt_of_le aD_l hz7
    replace res_l := Nat.lt_of_lt_of_le res_l hz7
    replace out_l := Nat.lt_of_lt_of_le out_l hz7
    refine hK.out _ _ ?s29 (fun hHeld => ?_)
    case s29 => ((try dsimp only); (try trivial))
    clear hK K
    try simp only [Act.put, List.setIfInBounds_toArray, List.set_cons_zero, List.set_cons_succ]
    refine wpAnyH_ready (rs := [5]) (by kernel_rfl) (by simp) ?_
    refine AllReadyH.cons (o := { dst := some 20, op := Go.Op.call { callee := Go.Callee.builtin Go.Builtin.append, args := #[Go.Operand.tmp 18, Go.Operand.tmp 19], argTypes := #[27, 27] }, type := 27, pos := "l03_disk.go:137", after := #[{ on := 3, ground := Go.Ground.data }, { on := 4, ground := Go.Ground.data }], guard := none }) rfl (fun K hK => ?k30) AllReadyH.nil
    refine step_app _ (by rfl) _ _ 27 (by rfl) 5 u0 (.int .u8 0) 1 1 Try.underlying27 hu0 hv0 hv1 hv2 rfl (by omega) (by rfl) em cx (by rfl) hi (byteCells_one' _) (by unfold maxLen; omega) (by omega) (by omega) ?_
    intro Ay cy w8 y hE _
    simp only [Nat.zero_add, List.nil_append] at y ⊢
    have he8 : Eff v0.heap.size (v0.heap.size + 1) w7 w8 := hE
    have hz8 : w7.heap.size ≤ w8.heap.size := he8.size
    have b8 : Below W.heap.size W w8 := b7.trans (he8.below b7.size (by omega))
    replace h := (h.below (he8.below (B := W.heap.size) (by omega) (by omega)) (Nat.le_refl _))
    replace hrc := (hrc.below (he8.below (B := W.heap.size) (by omega) (by omega)) (Nat.le_refl _))
    replace hrw := (hrw.below (he8.below (B := W.heap.size) (by omega) (by omega)) (Nat.le_refl _))
    replace hi := (hi.below (he8.below (B := W.heap.size) (by omega) (by omega)) (Nat.le_refl _))
    replace hD := hD.keep he8 (by omega)
    replace htt := htt.keep he8 (by omega)
    replace res_f0 := (he8.frozen res_0 (by simp only; omega)).trans res_f0
    replace res_f1 := (he8.frozen res_1 (by simp only; omega)).trans res_f1
    replace out_f0 := (he8.frozen out_0 (by simp only; omega)).trans out_f0
    replace out_f1 := (he8.frozen out_1 (by simp only; omega)).trans out_f1
    replace aD_0 := he8.cell aD_0 (by simp only; omega)
    replace aD_1 := he8.cell aD_1 (by simp only; omega)
    replace res_0 := he8.cell res_0 (by simp only; omega)
    replace res_1 := he8.cell res_1 (by simp only; omega)
    replace out_0 := he8.cell out_0 (by simp only; omega)
    replace out_1 := he8.cell out_1 (by simp only; omega)
    replace aD_l := Nat.lt_of_lt_of_le aD_l hz8
    replace res_l := Nat.lt_of_lt_of_le res_l hz8
    replace out_l := Nat.lt_of_lt_of_le out_l hz8
    have y1 := y
    have hey : Eff 0 0 v0 w8 := Eff.join he7 he8 (Nat.le_refl _)
    clear hE em
    refine hK.out _ _ ?s30 (fun hHeld => ?_)
    case s30 => ((try dsimp only); (try trivial))
    clear hK K
    try simp only [Act.put, List.setIfInBounds_toArray, List.set_cons_zero, List.set_cons_succ]
    refine wpAnyH_take (i := 6) (oi := { dst := some 21, op := Go.Op.build 74 #[(0, Go.Operand.tmp 17), (1, Go.Operand.tmp 20)], type := 74, pos := "l03_disk.go:137", after := #[{ on := 2, ground := Go.Ground.data }, { on := 5, ground := Go.Ground.data }], guard := none }) (v := ?v31) rfl (by kernel_rfl) (by kernel_rfl) (by kernel_rfl) (fun _ _ _ h => h) (Or.inl ⟨by rfl, ?y31⟩) (by assumption) ?_
    case y31 => (intro w hSw; (try dsimp only at hSw); go_simp; first | done | with_reducible rfl)
    try simp only [Act.put, List.setIfInBounds_toArray, List.set_cons_zero, List.set_cons_succ]
    refine wpAnyH_ready (rs := [7]) (by kernel_rfl) (by simp) ?_
    refine AllReadyH.cons (o := { dst := some 22, op := Go.Op.buildSlice 31 1 #[(0, Go.Operand.tmp 21)], type := 31, pos := "l03_disk.go:137", after := #[{ on := 6, ground := Go.Ground.data }], guard := none }) rfl (fun K hK => ?k32) AllReadyH.nil
    go_simp
    have he9 : Eff 0 0 w8 (w8.alloc (.cells #[.int .i64 px, .slice Ay nx cy] 74)) := Eff.alloc _ _
    have hs9 : (w8.alloc (.cells #[.int .i64 px, .slice Ay nx cy] 74)).heap.size = w8.heap.size + 1 := (by simp)
    have tr := rd_row w8 [.int .i64 px, .slice Ay nx cy] 74
    generalize (w8.alloc (.cells #[.int .i64 px, .slice Ay nx cy] 74)) = w9 at *
    have hz9 : w8.heap.size ≤ w9.heap.size := he9.size
    have b9 : Below W.heap.size W w9 := b8.trans (he9.below b8.size (by omega))
    replace h := (h.below (he9.below (B := W.heap.size) (by omega) (by omega)) (Nat.le_refl _))
    replace hrc := (hrc.below (he9.below (B := W.heap.size) (by omega) (by omega)) (Nat.le_refl _))
    replace hrw := (hrw.below (he9.below (B := W.heap.size) (by omega) (by omega)) (Nat.le_refl _))
    replace hi := (hi.below (he9.below (B := W.heap.size) (by omega) (by omega)) (Nat.le_refl _))
    replace hD := hD.keep he9 (by omega)
    replace htt := htt.keep he9 (by omega)
    replace y := y.keep he9 (by omega)
    replace res_f0 := (he9.frozen res_0 (by simp only; omega)).trans res_f0
    replace res_f1 := (he9.frozen res_1 (by simp only; omega)).trans res_f1
    replace out_f0 := (he9.frozen out_0 (by simp only; omega)).trans out_f0
    replace out_f1 := (he9.frozen out_1 (by simp only; omega)).trans out_f1
    replace aD_0 := he9.cell aD_0 (by simp only; omega)
    replace aD_1 := he9.cell aD_1 (by simp only; omega)
    replace res_0 := he9.cell res_0 (by simp only; omega)
    replace res_1 := he9.cell res_1 (by simp only; omega)
    replace out_0 := he9.cell out_0 (by simp only; omega)
    replace out_1 := he9.cell out_1 (by simp only; omega)
    replace aD_l := Nat.lt_of_lt_of_le aD_l hz9
    replace res_l := Nat.lt_of_lt_of_le res_l hz9
    replace out_l := Nat.lt_of_lt_of_le out_l hz9
    have heb : Eff 0 0 w8 w9 := he9
    refine hK.out _ _ ?s32 (fun hHeld => ?_)
    case s32 => ((try dsimp only); (try trivial))
    clear hK K
    try simp only [Act.put, List.setIfInBounds_toArray, List.set_cons_zero, List.set_cons_succ]
    refine wpAnyH_ready (rs := [8]) (by kernel_rfl) (by simp) ?_
    refine AllReadyH.cons (o := { dst := some 23, op := Go.Op.call { callee := Go.Callee.builtin Go.Builtin.append, args := #[Go.Operand.tmp 16, Go.Operand.tmp 22], argTypes := #[31, 31] }, type := 31, pos := "l03_disk.go:137", after := #[{ on := 1, ground := Go.Ground.data }, { on := 7, ground := Go.Ground.data }, { on := 5, ground := Go.Ground.chain }], guard := none }) rfl (fun K hK => ?k33) AllReadyH.nil
    refine step_app _ (by rfl) _ _ 31 (by rfl) 74 wi0 (.agg #[.int .i64 0, .slice none 0 0]) 2 32 Try.underlying31 hwi0 hwz0 hwz1 hwz2 rfl (by omega) (by rfl) htt 1 (by rfl) tr (fun u hu => twoR hu rfl rfl) (by unfold maxLen; omega) (by omega) (by omega) ?_
    intro A3 c3 w10 hO hE hK2
    have he10 : Eff ta tb w9 w10 := hE
    have hz10 : w9.heap.size ≤ w10.heap.size := he10.size
    have b10 : Below W.heap.size W w10 := b9.trans (he10.below b9.size (by omega))
    replace h := (h.below (he10.below (B := W.heap.size) (by omega) (by omega)) (Nat.le_refl _))
    replace hrc := (hrc.below (he10.below (B := W.heap.size) (by omega) (by omega)) (Nat.le_refl _))
    replace hrw := (hrw.below (he10.below (B := W.heap.size) (by omega) (by omega)) (Nat.le_refl _))
    replace hi := (hi.below (he10.below (B := W.heap.size) (by omega) (by omega)) (Nat.le_refl _))
    replace hD := hD.keep he10 (by omega)
    replace y := y.keep he10 (by omega)
    replace res_f0 := (he10.frozen res_0 (by simp only; omega)).trans res_f0
    replace res_f1 := (he10.frozen res_1 (by simp only; omega)).trans res_f1
    replace out_f0 := (he10.frozen out_0 (by simp only; omega)).trans out_f0
    replace out_f1 := (he10.frozen out_1 (by simp only; omega)).trans out_f1
    replace aD_0 := he10.cell aD_0 (by simp only; omega)
    replace aD_1 := he10.cell aD_1 (by simp only; omega)
    replace res_0 := he10.cell res_0 (by simp only; omega)
    replace res_1 := he10.cell res_1 (by simp only; omega)
    replace out_0 := he10.cell out_0 (by simp only; omega)
    replace out_1 := he10.cell out_1 (by simp only; omega)
    replace aD_l := Nat.lt_of_lt_of_le aD_l hz10
    replace res_l := Nat.lt_of_lt_of_le res_l hz10
    replace out_l := Nat.lt_of_lt_of_le out_l hz10
    have hOffR := hC.snocOff (y := ⟨px, Ay, nx, cy, lx⟩) y1 (q := H) (Nat.le_refl _) (by omega) htb (by omega) hK2
    replace hC := hC.snoc (y := ⟨px, Ay, nx, cy, lx⟩) hey y1 hta HTQ.out heb hO hE hK2
    clear hE hO hK2 tr htt y y1 hey heb
    refine hK.out _ _ ?s33 (fun hHeld => ?_)
    case s33 => ((try dsimp only); (try trivial))
    clear hK K
    try simp only [Act.put, List.setIfInBounds_toArray, List.set_cons_zero, List.set_cons_succ]
    refine wpAnyH_take (i := 9) (oi := { dst := some 24, op := Go.Op.fieldAddr 33 (Go.Operand.tmp 8) 1, type := 0, pos := "l03_disk.go:137", after := #[{ on := 0, ground := Go.Ground.phase }, { on := 1, ground := Go.Ground.phase }, { on := 2, ground := Go.Ground.phase }, { on := 3, ground := Go.Ground.phase }, { on := 4, ground := Go.Ground.phase }, { on := 5, ground := Go.Ground.phase }, { on := 6, ground := Go.Ground.phase }, { on := 7, ground := Go.Ground.phase }, { on := 8, ground := Go.Ground.phase }], guard := none }) (v := ?v34) rfl (by kernel_rfl) (by kernel_rfl) (by kernel_rfl) (fun _ _ _ h => h) (Or.inl ⟨by rfl, ?y34⟩) (by assumption) ?_
    case y34 => (intro w hSw; (try dsimp only at hSw); go_simp; first | done | with_reducible rfl)
    try simp only [Act.put, List.setIfInBounds_toArray, List.set_cons_zero, List.set_cons_succ]
    refine wpAnyH_ready (rs := [10]) (by kernel_rfl) (by simp) ?_
    refine AllReadyH.cons (o := { dst := none, op := Go.Op.store 31 (Go.Operand.tmp 24) (Go.Operand.tmp 23), type := 0, pos := "l03_disk.go:137", after := #[{ on := 9, ground := Go.Ground.data }, { on := 8, ground := Go.Ground.data }, { on := 8, ground := Go.Ground.chain }, { on := 0, ground := Go.Ground.phase }, { on := 1, ground := Go.Ground.phase }, { on := 2, ground := Go.Ground.phase }, { on := 3, ground := Go.Ground.phase }, { on := 4, ground := Go.Ground.phase }, { on := 5, ground := Go.Ground.phase }, { on := 6, ground := Go.Ground.phase }, { on := 7, ground := Go.Ground.phase }, { on := 8, ground := Go.Ground.phase }], guard := none }) rfl (fun K hK => ?k35) AllReadyH.nil
    go_simp
    refine hK.out _ _ ?s35 (fun hHeld => ?_)
    case s35 => ((try dsimp only); (try trivial))
    clear hK K
    try simp only [Act.put]
    refine wpAnyH_done (by kernel_rfl) ?_ _
    have hsst : (w10.setCell ⟨H, 1, none⟩ (.slice A3 (nw + 1) c3)).heap.size = w10.heap.size := (by simp)
    have hOff2 := hOffR
    replace hC := hC.keepOff hOffR (eff_set w10 H 1 (.slice A3 (nw + 1) c3))
    have hsst : (w10.setCell ⟨H, 1, none⟩ (.slice A3 (nw + 1) c3)).heap.size = w10.heap.size := (by simp)
    replace hC := hC.wide (hi' := (w10.setCell ⟨H, 1, none⟩ (.slice A3 (nw + 1) c3)).heap.size) (Nat.le_refl _) (Nat.le_of_eq hsst.symm) (Nat.le_refl _)
    have he11 : Eff (H) (H + 1) w10 (w10.setCell ⟨H, 1, none⟩ (.slice A3 (nw + 1) c3)) := eff_set _ _ _ _
    replace res_f0 := (he11.frozen res_0 (by simp only; omega)).trans res_f0
    replace res_f1 := (he11.frozen res_1 (by simp only; omega)).trans res_f1
    replace out_f0 := set_frozen (p := ⟨H, 1, none⟩) out_f0 (.slice A3 (nw + 1) c3)
    replace out_f1 := set_frozen (p := ⟨H, 1, none⟩) out_f1 (.slice A3 (nw + 1) c3)
    replace aD_0 := he11.cell aD_0 (by simp only; omega)
    replace aD_1 := he11.cell aD_1 (by simp only; omega)
    replace res_0 := he11.cell res_0 (by simp only; omega)
    replace res_1 := he11.cell res_1 (by simp only; omega)
    replace out_0 := set_other (b' := H) (o' := 1) out_0 (.slice A3 (nw + 1) c3) (.inr (by omega))
    replace out_1 := set_same out_1 (.slice A3 (nw + 1) c3)
    have hz11 : w10.heap.size ≤ (w10.setCell ⟨H, 1, none⟩ (.slice A3 (nw + 1) c3)).heap.size := he11.size
    generalize (w10.setCell ⟨H, 1, none⟩ (.slice A3 (nw + 1) c3)) = w11 at *
    have b11 : Below W.heap.size W w11 := b10.trans (he11.below b10.size (by omega))
    replace h := (h.below (he11.below (B := W.heap.size) (by omega) (by omega)) (Nat.le_refl _))
    replace hrc := (hrc.below (he11.below (B := W.heap.size) (by omega) (by omega)) (Nat.le_refl _))
    replace hrw := (hrw.below (he11.below (B := W.heap.size) (by omega) (by omega)) (Nat.le_refl _))
    replace hi := (hi.below (he11.below (B := W.heap.size) (by omega) (by omega)) (Nat.le_refl _))
    replace hD := hD.keep he11 (by omega)
    replace aD_l := Nat.lt_of_lt_of_le aD_l hz11
    replace res_l := Nat.lt_of_lt_of_le res_l hz11
    replace out_l := Nat.lt_of_lt_of_le out_l hz11
    have QF : Hid ((es ++ [(⟨px, Ay, nx, cy, lx⟩ : Wr)]).map Wr.d = dw ++ [(px, lx)]) := Lib.hid (by rw [List.map_append, QE.out]; rfl)
    have hD1 := hD.lohi
    have hC1 := hC.lohi
    go_wp2_with fail
    refine (spec_DiskOk_d A1 nc c1 A3 (nw + 1) c3 dc (dw ++ [(px, lx)]) w11 ⟨cs, _, hD.rd (by omega), hC.rd (Nat.le_refl _), QD.out, QF.out⟩ HLB2.out).mono ?_
    rintro e w12 ⟨rfl, hb⟩
    have he12 : Eff 0 0 w11 w12 := Eff.of hb
    have hz12 : w11.heap.size ≤ w12.heap.size := he12.size
    have b12 : Below W.heap.size W w12 := b11.trans (he12.below b11.size (by omega))
    replace h := (h.below (he12.below (B := W.heap.size) (by omega) (by omega)) (Nat.le_refl _))
    replace hrc := (hrc.below (he12.below (B := W.heap.size) (by omega) (by omega)) (Nat.le_refl _))
    replace hrw := (hrw.below (he12.below (B := W.heap.size) (by omega) (by omega)) (Nat.le_refl _))
    replace hi := (hi.below (he12.below (B := W.heap.size) (by omega) (by omega)) (Nat.le_refl _))
    replace hD := hD.keep he12 (by omega)
    replace hC := hC.keep he12 (by omega)
    replace res_f0 := (he12.frozen res_0 (by simp only; omega)).trans res_f0
    replace res_f1 := (he12.frozen res_1 (by simp only; omega)).trans res_f1
    replace out_f0 := (he12.frozen out_0 (by simp only; omega)).trans out_f0
    replace out_f1 := (he12.frozen out_1 (by simp only; omega)).trans out_f1
    replace aD_0 := he12.cell aD_0 (by simp only; omega)
    replace aD_1 := he12.cell aD_1 (by simp only; omega)
    replace res_0 := he12.cell res_0 (by simp only; omega)
    replace res_1 := he12.cell res_1 (by simp only; omega)
    replace out_0 := he12.cell out_0 (by simp only; omega)
    replace out_1 := he12.cell out_1 (by simp only; omega)
    replace aD_l := Nat.lt_of_lt_of_le aD_l hz12
    replace res_l := Nat.lt_of_lt_of_le res_l hz12
    replace out_l := Nat.lt_of_lt_of_le out_l hz12
    clear hb
    rw [HOK2.out]
    rcases ok2 with _ | _
    · obtain rfl : RC = [] := by rw [← HRC.out]; rfl
      obtain rfl : RW = [] := by rw [← HRW.out]; rfl
      go_wp2
      refine bodyPost_ret (v := .tuple #[.agg #[.slice none 0 0, .slice none 0 0], .bool false]) (by simp [results, Try.results20, go_sem, *]) rfl ?_
      exact madeDT_no (b12.trans (eff_two.below b12.size (.inl (by omega))))
    · obtain rfl : RC = dc := by rw [← HRC.out]; rfl
      obtain rfl : RW = dw ++ [(px, lx)] := by rw [← HRW.out]; rfl
      go_wp2
      refine bodyPost_ret (v := .tuple #[.agg #[.slice A1 nc c1, .slice A3 (nw + 1) c3], .bool true]) (by simp [results, Try.results20, go_sem, *]) rfl ?_
      exact madeDT_two QD.out QF.out hD (hC.wide (Nat.le_refl _) he12.size (Nat.le_refl _)) b12 (g := W.heap.size + 1) (by omega) (by omega)
  case m28 =>
    refine AllReadyH.cons (o := { dst := some 18, op := Go.Op.buildSlice 27 0 #[], type := 27, pos := "l03_disk.go:137", after := #[], guard := none }) rfl (fun K hK => ?k36) AllReadyH.nil
    case k36 =>
      go_simp
      have he7 : Eff 0 0 v0 (v0.alloc (.cells #[] 5)) := Eff.alloc _ _
      have hs7 : (v0.alloc (.cells #[] 5)).heap.size = v0.heap.size + 1 := (by simp)
      have em := new_empty v0 5 1
      generalize (v0.alloc (.cells #[] 5)) = w7 at *
      have hz7 : v0.heap.size ≤ w7.heap.size := he7.size
      have b7 : Below W.heap.size W w7 := b6.trans (he7.below b6.size (by omega))
      replace h := (h.below (he7.below (B := W.heap.size) (by omega) (by omega)) (Nat.le_refl _))
      replace hrc := (hrc.below (he7.below (B := W.heap.size) (by omega) (by omega)) (Nat.le_refl _))
      replace hrw := (hrw.below (he7.below (B := W.heap.size) (by omega) (by omega)) (Nat.le_refl _))
      replace hi := (hi.below (he7.below (B := W.heap.size) (by omega) (by omega)) (Nat.le_refl _))
      replace hD := hD.keep he7 (by omega)
      replace htt := htt.keep he7 (by omega)
      replace res_f0 := (he7.frozen res_0 (by simp only; omega)).trans res_f0
      replace res_f1 := (he7.frozen res_1 (by simp only; omega)).trans res_f1
      replace out_f0 := (he7.frozen out_0 (by simp only; omega)).trans out_f0
      replace out_f1 := (he7.frozen out_1 (by simp only; omega)).trans out_f1
      replace aD_0 := he7.cell aD_0 (by simp only; omega)
      replace aD_1 := he7.cell aD_1 (by simp only; omega)
      replace res_0 := he7.cell res_0 (by simp only; omega)
      replace res_1 := he7.cell res_1 (by simp only; omega)
      replace out_0 := he7.cell out_0 (by simp only; omega)
      replace out_1 := he7.cell out_1 (by simp only; omega)
      replace aD_l := Nat.lt_of_lt_of_le aD_l hz7
      replace res_l := Nat.lt_of_lt_of_le res_l hz7
      replace out_l := Nat.lt_of_lt_of_le out_l hz7
      refine hK.out _ _ ?s36 (fun hHeld => ?_)
      case s36 => ((try dsimp only); (try trivial))
      clear hK K
      try simp only [Act.put, List.setIfInBounds_toArray, List.set_cons_zero, List.set_cons_succ]
      refine wpAnyH_ready (rs := [1, 5]) (by kernel_rfl) (by simp) ?_
      refine AllReadyH.cons (o := { dst := some 16, op := Go.Op.load 31 (Go.Operand.tmp 15), type := 31, pos := "l03_disk.go:137", after := #[{ on := 0, ground := Go.Ground.data }], guard := none }) rfl (fun K hK => ?k37) ?m37
      case k37 =>
        go_simp
        refine hK.out _ _ ?s37 (fun hHeld => ?_)
        case s37 => ((try dsimp only); (try trivial))
        clear hK K
        try simp only [Act.put, List.setIfInBounds_toArray, List.set_cons_zero, List.set_cons_succ]
        refine wpAnyH_ready (rs := [5]) (by kernel_rfl) (by simp) ?_
        refine AllReadyH.cons (o := { dst := some 20, op := Go.Op.call { callee := Go.Callee.builtin Go.Builtin.append, args := #[Go.Operand.tmp 18, Go.Operand.tmp 19], argTypes := #[27, 27] }, type := 27, pos := "l03_disk.go:137", after := #[{ on := 3, ground := Go.Ground.data }, { on := 4, ground := Go.Ground.data }], guard := none }) rfl (fun K hK => ?k38) AllReadyH.nil
        refine step_app _ (by rfl) _ _ 27 (by rfl) 5 u0 (.int .u8 0) 1 1 Try.underlying27 hu0 hv0 hv1 hv2 rfl (by omega) (by rfl) em cx (by rfl) hi (byteCells_one' _) (by unfold maxLen; omega) (by omega) (by omega) ?_
        intro Ay cy w8 y hE _
        simp only [Nat.zero_add, List.nil_append] at y ⊢
        have he8 : Eff v0.heap.size (v0.heap.size + 1) w7 w8 := hE
        have hz8 : w7.heap.size ≤ w8.heap.size := he8.size
        have b8 : Below W.heap.size W w8 := b7.trans (he8.below b7.size (by omega))
        replace h := (h.below (he8.below (B := W.heap.size) (by omega) (by omega)) (Nat.le_refl _))
        replace hrc := (hrc.below (he8.below (B := W.heap.size) (by omega) (by omega)) (Nat.le_refl _))
        replace hrw := (hrw.below (he8.below (B := W.heap.size) (by omega) (by omega)) (Nat.le_refl _))
        replace hi := (hi.below (he8.below (B := W.heap.size) (by omega) (by omega)) (Nat.le_refl _))
        replace hD := hD.keep he8 (by omega)
        replace htt := htt.keep he8 (by omega)
        replace res_f0 := (he8.frozen res_0 (by simp only; omega)).trans res_f0
        replace res_f1 := (he8.frozen res_1 (by simp only; omega)).trans res_f1
        replace out_f0 := (he8.frozen out_0 (by simp only; omega)).trans out_f0
        replace out_f1 := (he8.frozen out_1 (by simp only; omega)).trans out_f1
        replace aD_0 := he8.cell aD_0 (by simp only; omega)
        replace aD_1 := he8.cell aD_1 (by simp only; omega)
        replace res_0 := he8.cell res_0 (by simp only; omega)
        replace res_1 := he8.cell res_1 (by simp only; omega)
        replace out_0 := he8.cell out_0 (by simp only; omega)
        replace out_1 := he8.cell out_1 (by simp only; omega)
        replace aD_l := Nat.lt_of_lt_of_le aD_l hz8
        replace res_l := Nat.lt_of_lt_of_le res_l hz8
        replace out_l := Nat.lt_of_lt_of_le out_l hz8
        have y1 := y
        have hey : Eff 0 0 v0 w8 := Eff.join he7 he8 (Nat.le_refl _)
        clear hE em
        refine hK.out _ _ ?s38 (fun hHeld => ?_)
        case s38 => ((try dsimp only); (try trivial))
        clear hK K
        try simp only [Act.put, List.setIfInBounds_toArray, List.set_cons_zero, List.set_cons_succ]
        refine wpAnyH_take (i := 6) (oi := { dst := some 21, op := Go.Op.build 74 #[(0, Go.Operand.tmp 17), (1, Go.Operand.tmp 20)], type := 74, pos := "l03_disk.go:137", after := #[{ on := 2, ground := Go.Ground.data }, { on := 5, ground := Go.Ground.data }], guard := none }) (v := ?v39) rfl (by kernel_rfl) (by kernel_rfl) (by kernel_rfl) (fun _ _ _ h => h) (Or.inl ⟨by rfl, ?y39⟩) (by assumption) ?_
        case y39 => (intro w hSw; (try dsimp only at hSw); go_simp; first | done | with_reducible rfl)
        try simp only [Act.put, List.setIfInBounds_toArray, List.set_cons_zero, List.set_cons_succ]
        refine wpAnyH_ready (rs := [7]) (by kernel_rfl) (by simp) ?_
        refine AllReadyH.cons (o := { dst := some 22, op := Go.Op.buildSlice 31 1 #[(0, Go.Operand.tmp 21)], type := 31, pos := "l03_disk.go:137", after := #[{ on := 6, ground := Go.Ground.data }], guard := none }) rfl (fun K hK => ?k40) AllReadyH.nil
        go_simp
        have he9 : Eff 0 0 w8 (w8.alloc (.cells #[.int .i64 px, .slice Ay nx cy] 74)) := Eff.alloc _ _
        have hs9 : (w8.alloc (.cells #[.int .i64 px, .slice Ay nx cy] 74)).heap.size = w8.heap.size + 1 := (by simp)
        have tr := rd_row w8 [.int .i64 px, .slice Ay nx cy] 74
        generalize (w8.alloc (.cells #[.int .i64 px, .slice Ay nx cy] 74)) = w9 at *
        have hz9 : w8.heap.size ≤ w9.heap.size := he9.size
        have b9 : Below W.heap.size W w9 := b8.trans (he9.below b8.size (by omega))
        replace h := (h.below (he9.below (B := W.heap.size) (by omega) (by omega)) (Nat.le_refl _))
        replace hrc := (hrc.below (he9.below (B := W.heap.size) (by omega) (by omega)) (Nat.le_refl _))
        replace hrw := (hrw.below (he9.below (B := W.heap.size) (by omega) (by omega)) (Nat.le_refl _))
        replace hi := (hi.below (he9.below (B := W.heap.size) (by omega) (by omega)) (Nat.le_refl _))
        replace hD := hD.keep he9 (by omega)
        replace htt := htt.keep he9 (by omega)
        replace y := y.keep he9 (by omega)
        replace res_f0 := (he9.frozen res_0 (by simp only; omega)).trans res_f0
        replace res_f1 := (he9.frozen res_1 (by simp only; omega)).trans res_f1
        replace out_f0 := (he9.frozen out_0 (by simp only; omega)).trans out_f0
        replace out_f1 := (he9.frozen out_1 (by simp only; omega)).trans out_f1
        replace aD_0 := he9.cell aD_0 (by simp only; omega)
        replace aD_1 := he9.cell aD_1 (by simp only; omega)
        replace res_0 := he9.cell res_0 (by simp only; omega)
        replace res_1 := he9.cell res_1 (by simp only; omega)
        replace out_0 := he9.cell out_0 (by simp only; omega)
        replace out_1 := he9.cell out_1 (by simp only; omega)
        replace aD_l := Nat.lt_of_lt_of_le aD_l hz9
        replace res_l := Nat.lt_of_lt_of_le res_l hz9
        replace out_l := Nat.lt_of_lt_of_le out_l hz9
        have heb : Eff 0 0 w8 w9 := he9
        refine hK.out _ _ ?s40 (fun hHeld => ?_)
        case s40 => ((try dsimp only); (try trivial))
        clear hK K
        try simp only [Act.put, List.setIfInBounds_toArray, List.set_cons_zero, List.set_cons_succ]
        refine wpAnyH_ready (rs := [8]) (by kernel_rfl) (by simp) ?_
        refine AllReadyH.cons (o := { dst := some 23, op := Go.Op.call { callee := Go.Callee.builtin Go.Builtin.append, args := #[Go.Operand.tmp 16, Go.Operand.tmp 22], argTypes := #[31, 31] }, type := 31, pos := "l03_disk.go:137", after := #[{ on := 1, ground := Go.Ground.data }, { on := 7, ground := Go.Ground.data }, { on := 5, ground := Go.Ground.chain }], guard := none }) rfl (fun K hK => ?k41) AllReadyH.nil
        refine step_app _ (by rfl) _ _ 31 (by rfl) 74 wi0 (.agg #[.int .i64 0, .slice none 0 0]) 2 32 Try.underlying31 hwi0 hwz0 hwz1 hwz2 rfl (by omega) (by rfl) htt 1 (by rfl) tr (fun u hu => twoR hu rfl rfl) (by unfold maxLen; omega) (by omega) (by omega) ?_
        intro A3 c3 w10 hO hE hK2
        have he10 : Eff ta tb w9 w10 := hE
        have hz10 : w9.heap.size ≤ w10.heap.size := he10.size
        have b10 : Below W.heap.size W w10 := b9.trans (he10.below b9.size (by omega))
        replace h := (h.below (he10.below (B := W.heap.size) (by omega) (by omega)) (Nat.le_refl _))
        replace hrc := (hrc.below (he10.below (B := W.heap.size) (by omega) (by omega)) (Nat.le_refl _))
        replace hrw := (hrw.below (he10.below (B := W.heap.size) (by omega) (by omega)) (Nat.le_refl _))
        replace hi := (hi.below (he10.below (B := W.heap.size) (by omega) (by omega)) (Nat.le_refl _))
        replace hD := hD.keep he10 (by omega)
        replace y := y.keep he10 (by omega)
        replace res_f0 := (he10.frozen res_0 (by simp only; omega)).trans res_f0
        replace res_f1 := (he10.frozen res_1 (by simp only; omega)).trans res_f1
        replace out_f0 := (he10.frozen out_0 (by simp only; omega)).trans out_f0
        replace out_f1 := (he10.frozen out_1 (by simp only; omega)).trans out_f1
        replace aD_0 := he10.cell aD_0 (by simp only; omega)
        replace aD_1 := he10.cell aD_1 (by simp only; omega)
        replace res_0 := he10.cell res_0 (by simp only; omega)
        replace res_1 := he10.cell res_1 (by simp only; omega)
        replace out_0 := he10.cell out_0 (by simp only; omega)
        replace out_1 := he10.cell out_1 (by simp only; omega)
        replace aD_l := Nat.lt_of_lt_of_le aD_l hz10
        replace res_l := Nat.lt_of_lt_of_le res_l hz10
        replace out_l := Nat.lt_of_lt_of_le out_l hz10
        have hOffR := hC.snocOff (y := ⟨px, Ay, nx, cy, lx⟩) y1 (q := H) (Nat.le_refl _) (by omega) htb (by omega) hK2
        replace hC := hC.snoc (y := ⟨px, Ay, nx, cy, lx⟩) hey y1 hta HTQ.out heb hO hE hK2
        clear hE hO hK2 tr htt y y1 hey heb
        refine hK.out _ _ ?s41 (fun hHeld => ?_)
        case s41 => ((try dsimp only); (try trivial))
        clear hK K
        try simp only [Act.put, List.setIfInBounds_toArray, List.set_cons_zero, List.set_cons_succ]
        refine wpAnyH_take (i := 9) (oi := { dst := some 24, op := Go.Op.fieldAddr 33 (Go.Operand.tmp 8) 1, type := 0, pos := "l03_disk.go:137", after := #[{ on := 0, ground := Go.Ground.phase }, { on := 1, ground := Go.Ground.phase }, { on := 2, ground := Go.Ground.phase }, { on := 3, ground := Go.Ground.phase }, { on := 4, ground := Go.Ground.phase }, { on := 5, ground := Go.Ground.phase }, { on := 6, ground := Go.Ground.phase }, { on := 7, ground := Go.Ground.phase }, { on := 8, ground := Go.Ground.phase }], guard := none }) (v := ?v42) rfl (by kernel_rfl) (by kernel_rfl) (by kernel_rfl) (fun _ _ _ h => h) (Or.inl ⟨by rfl, ?y42⟩) (by assumption) ?_
        case y42 => (intro w hSw; (try dsimp only at hSw); go_simp; first | done | with_reducible rfl)
        try simp only [Act.put, List.setIfInBounds_toArray, List.set_cons_zero, List.set_cons_succ]
        refine wpAnyH_ready (rs := [10]) (by kernel_rfl) (by simp) ?_
        refine AllReadyH.cons (o := { dst := none, op := Go.Op.store 31 (Go.Operand.tmp 24) (Go.Operand.tmp 23), type := 0, pos := "l03_disk.go:137", after := #[{ on := 9, ground := Go.Ground.data }, { on := 8, ground := Go.Ground.data }, { on := 8, ground := Go.Ground.chain }, { on := 0, ground := Go.Ground.phase }, { on := 1, ground := Go.Ground.phase }, { on := 2, ground := Go.Ground.phase }, { on := 3, ground := Go.Ground.phase }, { on := 4, ground := Go.Ground.phase }, { on := 5, ground := Go.Ground.phase }, { on := 6, ground := Go.Ground.phase }, { on := 7, ground := Go.Ground.phase }, { on := 8, ground := Go.Ground.phase }], guard := none }) rfl (fun K hK => ?k43) AllReadyH.nil
        go_simp
        refine hK.out _ _ ?s43 (fun hHeld => ?_)
        case s43 => ((try dsimp only); (try trivial))
        clear hK K
        try simp only [Act.put]
        refine wpAnyH_done (by kernel_rfl) ?_ _
        have hsst : (w10.setCell ⟨H, 1, none⟩ (.slice A3 (nw + 1) c3)).heap.size = w10.heap.size := (by simp)
        have hOff2 := hOffR
        replace hC := hC.keepOff hOffR (eff_set w10 H 1 (.slice A3 (nw + 1) c3))
        have hsst : (w10.setCell ⟨H, 1, none⟩ (.slice A3 (nw + 1) c3)).heap.size = w10.heap.size := (by simp)
        replace hC := hC.wide (hi' := (w10.setCell ⟨H, 1, none⟩ (.slice A3 (nw + 1) c3)).heap.size) (Nat.le_refl _) (Nat.le_of_eq hsst.symm) (Nat.le_refl _)
        have he11 : Eff (H) (H + 1) w10 (w10.setCell ⟨H, 1, none⟩ (.slice A3 (nw + 1) c3)) := eff_set _ _ _ _
        replace res_f0 := (he11.frozen res_0 (by simp only; omega)).trans res_f0
        replace res_f1 := (he11.frozen res_1 (by simp only; omega)).trans res_f1
        replace out_f0 := set_frozen (p := ⟨H, 1, none⟩) out_f0 (.slice A3 (nw + 1) c3)
        replace out_f1 := set_frozen (p := ⟨H, 1, none⟩) out_f1 (.slice A3 (nw + 1) c3)
        replace aD_0 := he11.cell aD_0 (by simp only; omega)
        replace aD_1 := he11.cell aD_1 (by simp only; omega)
        replace res_0 := he11.cell res_0 (by simp only; omega)
        replace res_1 := he11.cell res_1 (by simp only; omega)
        replace out_0 := set_other (b' := H) (o' := 1) out_0 (.slice A3 (nw + 1) c3) (.inr (by omega))
        replace out_1 := set_same out_1 (.slice A3 (nw + 1) c3)
        have hz11 : w10.heap.size ≤ (w10.setCell ⟨H, 1, none⟩ (.slice A3 (nw + 1) c3)).heap.size := he11.size
        generalize (w10.setCell ⟨H, 1, none⟩ (.slice A3 (nw + 1) c3)) = w11 at *
        have b11 : Below W.heap.size W w11 := b10.trans (he11.below b10.size (by omega))
        replace h := (h.below (he11.below (B := W.heap.size) (by omega) (by omega)) (Nat.le_refl _))
        replace hrc := (hrc.below (he11.below (B := W.heap.size) (by omega) (by omega)) (Nat.le_refl _))
        replace hrw := (hrw.below (he11.below (B := W.heap.size) (by omega) (by omega)) (Nat.le_refl _))
        replace hi := (hi.below (he11.below (B := W.heap.size) (by omega) (by omega)) (Nat.le_refl _))
        replace hD := hD.keep he11 (by omega)
        replace aD_l := Nat.lt_of_lt_of_le aD_l hz11
        replace res_l := Nat.lt_of_lt_of_le res_l hz11
        replace out_l := Nat.lt_of_lt_of_le out_l hz11
        have QF : Hid ((es ++ [(⟨px, Ay, nx, cy, lx⟩ : Wr)]).map Wr.d = dw ++ [(px, lx)]) := Lib.hid (by rw [List.map_append, QE.out]; rfl)
        have hD1 := hD.lohi
        have hC1 := hC.lohi
        go_wp2_with fail
        refine (spec_DiskOk_d A1 nc c1 A3 (nw + 1) c3 dc (dw ++ [(px, lx)]) w11 ⟨cs, _, hD.rd (by omega), hC.rd (Nat.le_refl _), QD.out, QF.out⟩ HLB2.out).mono ?_
        rintro e w12 ⟨rfl, hb⟩
        have he12 : Eff 0 0 w11 w12 := Eff.of hb
        have hz12 : w11.heap.size ≤ w12.heap.size := he12.size
        have b12 : Below W.heap.size W w12 := b11.trans (he12.below b11.size (by omega))
        replace h := (h.below (he12.below (B := W.heap.size) (by omega) (by omega)) (Nat.le_refl _))
        replace hrc := (hrc.below (he12.below (B := W.heap.size) (by omega) (by omega)) (Nat.le_refl _))
        replace hrw := (hrw.below (he12.below (B := W.heap.size) (by omega) (by omega)) (Nat.le_refl _))
        replace hi := (hi.below (he12.below (B := W.heap.size) (by omega) (by omega)) (Nat.le_refl _))
        replace hD := hD.keep he12 (by omega)
        replace hC := hC.keep he12 (by omega)
        replace res_f0 := (he12.frozen res_0 (by simp only; omega)).trans res_f0
        replace res_f1 := (he12.frozen res_1 (by simp only; omega)).trans res_f1
        replace out_f0 := (he12.frozen out_0 (by simp only; omega)).trans out_f0
        replace out_f1 := (he12.frozen out_1 (by simp only; omega)).trans out_f1
        replace aD_0 := he12.cell aD_0 (by simp only; omega)
        replace aD_1 := he12.cell aD_1 (by simp only; omega)
        replace res_0 := he12.cell res_0 (by simp only; omega)
        replace res_1 := he12.cell res_1 (by simp only; omega)
        replace out_0 := he12.cell out_0 (by simp only; omega)
        replace out_1 := he12.cell out_1 (by simp only; omega)
        replace aD_l := Nat.lt_of_lt_of_le aD_l hz12
        replace res_l := Nat.lt_of_lt_of_le res_l hz12
        replace out_l := Nat.lt_of_lt_of_le out_l hz12
        clear hb
        rw [HOK2.out]
        rcases ok2 with _ | _
        · obtain rfl : RC = [] := by rw [← HRC.out]; rfl
          obtain rfl : RW = [] := by rw [← HRW.out]; rfl
          go_wp2
          refine bodyPost_ret (v := .tuple #[.agg #[.slice none 0 0, .slice none 0 0], .bool false]) (by simp [results, Try.results20, go_sem, *]) rfl ?_
          exact madeDT_no (b12.trans (eff_two.below b12.size (.inl (by omega))))
        · obtain rfl : RC = dc := by rw [← HRC.out]; rfl
          obtain rfl : RW = dw ++ [(px, lx)] := by rw [← HRW.out]; rfl
          go_wp2
          refine bodyPost_ret (v := .tuple #[.agg #[.slice A1 nc c1, .slice A3 (nw + 1) c3], .bool true]) (by simp [results, Try.results20, go_sem, *]) rfl ?_
          exact madeDT_two QD.out QF.out hD (hC.wide (Nat.le_refl _) he12.size (Nat.le_refl _)) b12 (g := W.heap.size + 1) (by omega) (by omega)
      case m37 =>
        refine AllReadyH.cons (o := { dst := some 20, op := Go.Op.call { callee := Go.Callee.builtin Go.Builtin.append, args := #[Go.Operand.tmp 18, Go.Operand.tmp 19], argTypes := #[27, 27] }, type := 27, pos := "l03_disk.go:137", after := #[{ on := 3, ground := Go.Ground.data }, { on := 4, ground := Go.Ground.data }], guard := none }) rfl (fun K hK => ?k44) AllReadyH.nil
        case k44 =>
          refine step_app _ (by rfl) _ _ 27 (by rfl) 5 u0 (.int .u8 0) 1 1 Try.underlying27 hu0 hv0 hv1 hv2 rfl (by omega) (by rfl) em cx (by rfl) hi (byteCells_one' _) (by unfold maxLen; omega) (by omega) (by omega) ?_
          intro Ay cy w8 y hE _
          simp only [Nat.zero_add, List.nil_append] at y ⊢
          have he8 : Eff v0.heap.size (v0.heap.size + 1) w7 w8 := hE
          have hz8 : w7.heap.size ≤ w8.heap.size := he8.size
          have b8 : Below W.heap.size W w8 := b7.trans (he8.below b7.size (by omega))
          replace h := (h.below (he8.below (B := W.heap.size) (by omega) (by omega)) (Nat.le_refl _))
          replace hrc := (hrc.below (he8.below (B := W.heap.size) (by omega) (by omega)) (Nat.le_refl _))
          replace hrw := (hrw.below (he8.below (B := W.heap.size) (by omega) (by omega)) (Nat.le_refl _))
          replace hi := (hi.below (he8.below (B := W.heap.size) (by omega) (by omega)) (Nat.le_refl _))
          replace hD := hD.keep he8 (by omega)
          replace htt := htt.keep he8 (by omega)
          replace res_f0 := (he8.frozen res_0 (by simp only; omega)).trans res_f0
          replace res_f1 := (he8.frozen res_1 (by simp only; omega)).trans res_f1
          replace out_f0 := (he8.frozen out_0 (by simp only; omega)).trans out_f0
          replace out_f1 := (he8.frozen out_1 (by simp only; omega)).trans out_f1
          replace aD_0 := he8.cell aD_0 (by simp only; omega)
          replace aD_1 := he8.cell aD_1 (by simp only; omega)
          replace res_0 := he8.cell res_0 (by simp only; omega)
          replace res_1 := he8.cell res_1 (by simp only; omega)
          replace out_0 := he8.cell out_0 (by simp only; omega)
          replace out_1 := he8.cell out_1 (by simp only; omega)
          replace aD_l := Nat.lt_of_lt_of_le aD_l hz8
          replace res_l := Nat.lt_of_lt_of_le res_l hz8
          replace out_l := Nat.lt_of_lt_of_le out_l hz8
          have y1 := y
          have hey : Eff 0 0 v0 w8 := Eff.join he7 he8 (Nat.le_refl _)
          clear hE em
          refine hK.out _ _ ?s44 (fun hHeld => ?_)
          case s44 => ((try dsimp only); (try trivial))
          clear hK K
          try simp only [Act.put, List.setIfInBounds_toArray, List.set_cons_zero, List.set_cons_succ]
          refine wpAnyH_take (i := 6) (oi := { dst := some 21, op := Go.Op.build 74 #[(0, Go.Operand.tmp 17), (1, Go.Operand.tmp 20)], type := 74, pos := "l03_disk.go:137", after := #[{ on := 2, ground := Go.Ground.data }, { on := 5, ground := Go.Ground.data }], guard := none }) (v := ?v45) rfl (by kernel_rfl) (by kernel_rfl) (by kernel_rfl) (fun _ _ _ h => h) (Or.inl ⟨by rfl, ?y45⟩) (by assumption) ?_
          case y45 => (intro w hSw; (try dsimp only at hSw); go_simp; first | done | with_reducible rfl)
          try simp only [Act.put, List.setIfInBounds_toArray, List.set_cons_zero, List.set_cons_succ]
          refine wpAnyH_ready (rs := [1, 7]) (by kernel_rfl) (by simp) ?_
          refine AllReadyH.cons (o := { dst := some 16, op := Go.Op.load 31 (Go.Operand.tmp 15), type := 31, pos := "l03_disk.go:137", after := #[{ on := 0, ground := Go.Ground.data }], guard := none }) rfl (fun K hK => ?k46) ?m46
          case k46 =>
            go_simp
            refine hK.out _ _ ?s46 (fun hHeld => ?_)
            case s46 => ((try dsimp only); (try trivial))
            clear hK K
            try simp only [Act.put, List.setIfInBounds_toArray, List.set_cons_zero, List.set_cons_succ]
            refine wpAnyH_ready (rs := [7]) (by kernel_rfl) (by simp) ?_
            refine AllReadyH.cons (o := { dst := some 22, op := Go.Op.buildSlice 31 1 #[(0, Go.Operand.tmp 21)], type := 31, pos := "l03_disk.go:137", after := #[{ on := 6, ground := Go.Ground.data }], guard := none }) rfl (fun K hK => ?k47) AllReadyH.nil
            go_simp
            have he9 : Eff 0 0 w8 (w8.alloc (.cells #[.int .i64 px, .slice Ay nx cy] 74)) := Eff.alloc _ _
            have hs9 : (w8.alloc (.cells #[.int .i64 px, .slice Ay nx cy] 74)).heap.size = w8.heap.size + 1 := (by simp)
            have tr := rd_row w8 [.int .i64 px, .slice Ay nx cy] 74
            generalize (w8.alloc (.cells #[.int .i64 px, .slice Ay nx cy] 74)) = w9 at *
            have hz9 : w8.heap.size ≤ w9.heap.size := he9.size
            have b9 : Below W.heap.size W w9 := b8.trans (he9.below b8.size (by omega))
            replace h := (h.below (he9.below (B := W.heap.size) (by omega) (by omega)) (Nat.le_refl _))
            replace hrc := (hrc.below (he9.below (B := W.heap.size) (by omega) (by omega)) (Nat.le_refl _))
            replace hrw := (hrw.below (he9.below (B := W.heap.size) (by omega) (by omega)) (Nat.le_refl _))
            replace hi := (hi.below (he9.below (B := W.heap.size) (by omega) (by omega)) (Nat.le_refl _))
            replace hD := hD.keep he9 (by omega)
            replace htt := htt.keep he9 (by omega)
            replace y := y.keep he9 (by omega)
            replace res_f0 := (he9.frozen res_0 (by simp only; omega)).trans res_f0
            replace res_f1 := (he9.frozen res_1 (by simp only; omega)).trans res_f1
            replace out_f0 := (he9.frozen out_0 (by simp only; omega)).trans out_f0
            replace out_f1 := (he9.frozen out_1 (by simp only; omega)).trans out_f1
            replace aD_0 := he9.cell aD_0 (by simp only; omega)
            replace aD_1 := he9.cell aD_1 (by simp only; omega)
            replace res_0 := he9.cell res_0 (by simp only; omega)
            replace res_1 := he9.cell res_1 (by simp only; omega)
            replace out_0 := he9.cell out_0 (by simp only; omega)
            replace out_1 := he9.cell out_1 (by simp only; omega)
            replace aD_l := Nat.lt_of_lt_of_le aD_l hz9
            replace res_l := Nat.lt_of_lt_of_le res_l hz9
            replace out_l := Nat.lt_of_lt_of_le out_l hz9
            have heb : Eff 0 0 w8 w9 := he9
            refine hK.out _ _ ?s47 (fun hHeld => ?_)
            case s47 => ((try dsimp only); (try trivial))
            clear hK K
            try simp only [Act.put, List.setIfInBounds_toArray, List.set_cons_zero, List.set_cons_succ]
            refine wpAnyH_ready (rs := [8]) (by kernel_rfl) (by simp) ?_
            refine AllReadyH.cons (o := { dst := some 23, op := Go.Op.call { callee := Go.Callee.builtin Go.Builtin.append, args := #[Go.Operand.tmp 16, Go.Operand.tmp 22], argTypes := #[31, 31] }, type := 31, pos := "l03_disk.go:137", after := #[{ on := 1, ground := Go.Ground.data }, { on := 7, ground := Go.Ground.data }, { on := 5, ground := Go.Ground.chain }], guard := none }) rfl (fun K hK => ?k48) AllReadyH.nil
            refine step_app _ (by rfl) _ _ 31 (by rfl) 74 wi0 (.agg #[.int .i64 0, .slice none 0 0]) 2 32 Try.underlying31 hwi0 hwz0 hwz1 hwz2 rfl (by omega) (by rfl) htt 1 (by rfl) tr (fun u hu => twoR hu rfl rfl) (by unfold maxLen; omega) (by omega) (by omega) ?_
            intro A3 c3 w10 hO hE hK2
            have he10 : Eff ta tb w9 w10 := hE
            have hz10 : w9.heap.size ≤ w10.heap.size := he10.size
            have b10 : Below W.heap.size W w10 := b9.trans (he10.below b9.size (by omega))
            replace h := (h.below (he10.below (B := W.heap.size) (by omega) (by omega)) (Nat.le_refl _))
            replace hrc := (hrc.below (he10.below (B := W.heap.size) (by omega) (by omega)) (Nat.le_refl _))
            replace hrw := (hrw.below (he10.below (B := W.heap.size) (by omega) (by omega)) (Nat.le_refl _))
            replace hi := (hi.below (he10.below (B := W.heap.size) (by omega) (by omega)) (Nat.le_refl _))
            replace hD := hD.keep he10 (by omega)
            replace y := y.keep he10 (by omega)
            replace res_f0 := (he10.frozen res_0 (by simp only; omega)).trans res_f0
            replace res_f1 := (he10.frozen res_1 (by simp only; omega)).trans res_f1
            replace out_f0 := (he10.frozen out_0 (by simp only; omega)).trans out_f0
            replace out_f1 := (he10.frozen out_1 (by simp only; omega)).trans out_f1
            replace aD_0 := he10.cell aD_0 (by simp only; omega)
            replace aD_1 := he10.cell aD_1 (by simp only; omega)
            replace res_0 := he10.cell res_0 (by simp only; omega)
            replace res_1 := he10.cell res_1 (by simp only; omega)
            replace out_0 := he10.cell out_0 (by simp only; omega)
            replace out_1 := he10.cell out_1 (by simp only; omega)
            replace aD_l := Nat.lt_of_lt_of_le aD_l hz10
            replace res_l := Nat.lt_of_lt_of_le res_l hz10
            replace out_l := Nat.lt_of_lt_of_le out_l hz10
            have hOffR := hC.snocOff (y := ⟨px, Ay, nx, cy, lx⟩) y1 (q := H) (Nat.le_refl _) (by omega) htb (by omega) hK2
            replace hC := hC.snoc (y := ⟨px, Ay, nx, cy, lx⟩) hey y1 hta HTQ.out heb hO hE hK2
            clear hE hO hK2 tr htt y y1 hey heb
            refine hK.out _ _ ?s48 (fun hHeld => ?_)
            case s48 => ((try dsimp only); (try trivial))
            clear hK K
            try simp only [Act.put, List.setIfInBounds_toArray, List.set_cons_zero, List.set_cons_succ]
            refine wpAnyH_take (i := 9) (oi := { dst := some 24, op := Go.Op.fieldAddr 33 (Go.Operand.tmp 8) 1, type := 0, pos := "l03_disk.go:137", after := #[{ on := 0, ground := Go.Ground.phase }, { on := 1, ground := Go.Ground.phase }, { on := 2, ground := Go.Ground.phase }, { on := 3, ground := Go.Ground.phase }, { on := 4, ground := Go.Ground.phase }, { on := 5, ground := Go.Ground.phase }, { on := 6, ground := Go.Ground.phase }, { on := 7, ground := Go.Ground.phase }, { on := 8, ground := Go.Ground.phase }], guard := none }) (v := ?v49) rfl (by kernel_rfl) (by kernel_rfl) (by kernel_rfl) (fun _ _ _ h => h) (Or.inl ⟨by rfl, ?y49⟩) (by assumption) ?_
            case y49 => (intro w hSw; (try dsimp only at hSw); go_simp; first | done | with_reducible rfl)
            try simp only [Act.put, List.setIfInBounds_toArray, List.set_cons_zero, List.set_cons_succ]
            refine wpAnyH_ready (rs := [10]) (by kernel_rfl) (by simp) ?_
            refine AllReadyH.cons (o := { dst := none, op := Go.Op.store 31 (Go.Operand.tmp 24) (Go.Operand.tmp 23), type := 0, pos := "l03_disk.go:137", after := #[{ on := 9, ground := Go.Ground.data }, { on := 8, ground := Go.Ground.data }, { on := 8, ground := Go.Ground.chain }, { on := 0, ground := Go.Ground.phase }, { on := 1, ground := Go.Ground.phase }, { on := 2, ground := Go.Ground.phase }, { on := 3, ground := Go.Ground.phase }, { on := 4, ground := Go.Ground.phase }, { on := 5, ground := Go.Ground.phase }, { on := 6, ground := Go.Ground.phase }, { on := 7, ground := Go.Ground.phase }, { on := 8, ground := Go.Ground.phase }], guard := none }) rfl (fun K hK => ?k50) AllReadyH.nil
            go_simp
            refine hK.out _ _ ?s50 (fun hHeld => ?_)
            case s50 => ((try dsimp only); (try trivial))
            clear hK K
            try simp only [Act.put]
            refine wpAnyH_done (by kernel_rfl) ?_ _
            have hsst : (w10.setCell ⟨H, 1, none⟩ (.slice A3 (nw + 1) c3)).heap.size = w10.heap.size := (by simp)
            have hOff2 := hOffR
            replace hC := hC.keepOff hOffR (eff_set w10 H 1 (.slice A3 (nw + 1) c3))
            have hsst : (w10.setCell ⟨H, 1, none⟩ (.slice A3 (nw + 1) c3)).heap.size = w10.heap.size := (by simp)
            replace hC := hC.wide (hi' := (w10.setCell ⟨H, 1, none⟩ (.slice A3 (nw + 1) c3)).heap.size) (Nat.le_refl _) (Nat.le_of_eq hsst.symm) (Nat.le_refl _)
            have he11 : Eff (H) (H + 1) w10 (w10.setCell ⟨H, 1, none⟩ (.slice A3 (nw + 1) c3)) := eff_set _ _ _ _
            replace res_f0 := (he11.frozen res_0 (by simp only; omega)).trans res_f0
            replace res_f1 := (he11.frozen res_1 (by simp only; omega)).trans res_f1
            replace out_f0 := set_frozen (p := ⟨H, 1, none⟩) out_f0 (.slice A3 (nw + 1) c3)
            replace out_f1 := set_frozen (p := ⟨H, 1, none⟩) out_f1 (.slice A3 (nw + 1) c3)
            replace aD_0 := he11.cell aD_0 (by simp only; omega)
            replace aD_1 := he11.cell aD_1 (by simp only; omega)
            replace res_0 := he11.cell res_0 (by simp only; omega)
            replace res_1 := he11.cell res_1 (by simp only; omega)
            replace out_0 := set_other (b' := H) (o' := 1) out_0 (.slice A3 (nw + 1) c3) (.inr (by omega))
            replace out_1 := set_same out_1 (.slice A3 (nw + 1) c3)
            have hz11 : w10.heap.size ≤ (w10.setCell ⟨H, 1, none⟩ (.slice A3 (nw + 1) c3)).heap.size := he11.size
            generalize (w10.setCell ⟨H, 1, none⟩ (.slice A3 (nw + 1) c3)) = w11 at *
            have b11 : Below W.heap.size W w11 := b10.trans (he11.below b10.size (by omega))
            replace h := (h.below (he11.below (B := W.heap.size) (by omega) (by omega)) (Nat.le_refl _))
            replace hrc := (hrc.below (he11.below (B := W.heap.size) (by omega) (by omega)) (Nat.le_refl _))
            replace hrw := (hrw.below (he11.below (B := W.heap.size) (by omega) (by omega)) (Nat.le_refl _))
            replace hi := (hi.below (he11.below (B := W.heap.size) (by omega) (by omega)) (Nat.le_refl _))
            replace hD := hD.keep he11 (by omega)
            replace aD_l := Nat.lt_of_lt_of_le aD_l hz11
            replace res_l := Nat.lt_of_lt_of_le res_l hz11
            replace out_l := Nat.lt_of_lt_of_le out_l hz11
            have QF : Hid ((es ++ [(⟨px, Ay, nx, cy, lx⟩ : Wr)]).map Wr.d = dw ++ [(px, lx)]) := Lib.hid (by rw [List.map_append, QE.out]; rfl)
            have hD1 := hD.lohi
            have hC1 := hC.lohi
            go_wp2_with fail
            refine (spec_DiskOk_d A1 nc c1 A3 (nw + 1) c3 dc (dw ++ [(px, lx)]) w11 ⟨cs, _, hD.rd (by omega), hC.rd (Nat.le_refl _), QD.out, QF.out⟩ HLB2.out).mono ?_
            rintro e w12 ⟨rfl, hb⟩
            have he12 : Eff 0 0 w11 w12 := Eff.of hb
            have hz12 : w11.heap.size ≤ w12.heap.size := he12.size
            have b12 : Below W.heap.size W w12 := b11.trans (he12.below b11.size (by omega))
            replace h := (h.below (he12.below (B := W.heap.size) (by omega) (by omega)) (Nat.le_refl _))
            replace hrc := (hrc.below (he12.below (B := W.heap.size) (by omega) (by omega)) (Nat.le_refl _))
            replace hrw := (hrw.below (he12.below (B := W.heap.size) (by omega) (by omega)) (Nat.le_refl _))
            replace hi := (hi.below (he12.below (B := W.heap.size) (by omega) (by omega)) (Nat.le_refl _))
            replace hD := hD.keep he12 (by omega)
            replace hC := hC.keep he12 (by omega)
            replace res_f0 := (he12.frozen res_0 (by simp only; omega)).trans res_f0
            replace res_f1 := (he12.frozen res_1 (by simp only; omega)).trans res_f1
            replace out_f0 := (he12.frozen out_0 (by simp only; omega)).trans out_f0
            replace out_f1 := (he12.frozen out_1 (by simp only; omega)).trans out_f1
            replace aD_0 := he12.cell aD_0 (by simp only; omega)
            replace aD_1 := he12.cell aD_1 (by simp only; omega)
            replace res_0 := he12.cell res_0 (by simp only; omega)
            replace res_1 := he12.cell res_1 (by simp only; omega)
            replace out_0 := he12.cell out_0 (by simp only; omega)
            replace out_1 := he12.cell out_1 (by simp only; omega)
            replace aD_l := Nat.lt_of_lt_of_le aD_l hz12
            replace res_l := Nat.lt_of_lt_of_le res_l hz12
            replace out_l := Nat.lt_of_lt_of_le out_l hz12
            clear hb
            rw [HOK2.out]
            rcases ok2 with _ | _
            · obtain rfl : RC = [] := by rw [← HRC.out]; rfl
              obtain rfl : RW = [] := by rw [← HRW.out]; rfl
              go_wp2
              refine bodyPost_ret (v := .tuple #[.agg #[.slice none 0 0, .slice none 0 0], .bool false]) (by simp [results, Try.results20, go_sem, *]) rfl ?_
              exact madeDT_no (b12.trans (eff_two.below b12.size (.inl (by omega))))
            · obtain rfl : RC = dc := by rw [← HRC.out]; rfl
              obtain rfl : RW = dw ++ [(px, lx)] := by rw [← HRW.out]; rfl
              go_wp2
              refine bodyPost_ret (v := .tuple #[.agg #[.slice A1 nc c1, .slice A3 (nw + 1) c3], .bool true]) (by simp [results, Try.results20, go_sem, *]) rfl ?_
              exact madeDT_two QD.out QF.out hD (hC.wide (Nat.le_refl _) he12.size (Nat.le_refl _)) b12 (g := W.heap.size + 1) (by omega) (by omega)
          case m46 =>
            refine AllReadyH.cons (o := { dst := some 22, op := Go.Op.buildSlice 31 1 #[(0, Go.Operand.tmp 21)], type := 31, pos := "l03_disk.go:137", after := #[{ on := 6, ground := Go.Ground.data }], guard := none }) rfl (fun K hK => ?k51) AllReadyH.nil
            case k51 =>
              go_simp
              have he9 : Eff 0 0 w8 (w8.alloc (.cells #[.int .i64 px, .slice Ay nx cy] 74)) := Eff.alloc _ _
              have hs9 : (w8.alloc (.cells #[.int .i64 px, .slice Ay nx cy] 74)).heap.size = w8.heap.size + 1 := (by simp)
              have tr := rd_row w8 [.int .i64 px, .slice Ay nx cy] 74
              generalize (w8.alloc (.cells #[.int .i64 px, .slice Ay nx cy] 74)) = w9 at *
              have hz9 : w8.heap.size ≤ w9.heap.size := he9.size
              have b9 : Below W.heap.size W w9 := b8.trans (he9.below b8.size (by omega))
              replace h := (h.below (he9.below (B := W.heap.size) (by omega) (by omega)) (Nat.le_refl _))
              replace hrc := (hrc.below (he9.below (B := W.heap.size) (by omega) (by omega)) (Nat.le_refl _))
              replace hrw := (hrw.below (he9.below (B := W.heap.size) (by omega) (by omega)) (Nat.le_refl _))
              replace hi := (hi.below (he9.below (B := W.heap.size) (by omega) (by omega)) (Nat.le_refl _))
              replace hD := hD.keep he9 (by omega)
              replace htt := htt.keep he9 (by omega)
              replace y := y.keep he9 (by omega)
              replace res_f0 := (he9.frozen res_0 (by simp only; omega)).trans res_f0
              replace res_f1 := (he9.frozen res_1 (by simp only; omega)).trans res_f1
              replace out_f0 := (he9.frozen out_0 (by simp only; omega)).trans out_f0
              replace out_f1 := (he9.frozen out_1 (by simp only; omega)).trans out_f1
              replace aD_0 := he9.cell aD_0 (by simp only; omega)
              replace aD_1 := he9.cell aD_1 (by simp only; omega)
              replace res_0 := he9.cell res_0 (by simp only; omega)
              replace res_1 := he9.cell res_1 (by simp only; omega)
              replace out_0 := he9.cell out_0 (by simp only; omega)
              replace out_1 := he9.cell out_1 (by simp only; omega)
              replace aD_l := Nat.lt_of_lt_of_le aD_l hz9
              replace res_l := Nat.lt_of_lt_of_le res_l hz9
              replace out_l := Nat.lt_of_lt_of_le out_l hz9
              have heb : Eff 0 0 w8 w9 := he9
              refine hK.out _ _ ?s51 (fun hHeld => ?_)
              case s51 => ((try dsimp only); (try trivial))
              clear hK K
              try simp only [Act.put, List.setIfInBounds_toArray, List.set_cons_zero, List.set_cons_succ]
              refine wpAnyH_ready (rs := [1]) (by kernel_rfl) (by simp) ?_
              refine AllReadyH.cons (o := { dst := some 16, op := Go.Op.load 31 (Go.Operand.tmp 15), type := 31, pos := "l03_disk.go:137", after := #[{ on := 0, ground := Go.Ground.data }], guard := none }) rfl (fun K hK => ?k52) AllReadyH.nil
              go_simp
              refine hK.out _ _ ?s52 (fun hHeld => ?_)
              case s52 => ((try dsimp only); (try trivial))
              clear hK K
              try simp only [Act.put, List.setIfInBounds_toArray, List.set_cons_zero, List.set_cons_succ]
              refine wpAnyH_ready (rs := [8]) (by kernel_rfl) (by simp) ?_
              refine AllReadyH.cons (o := { dst := some 23, op := Go.Op.call { callee := Go.Callee.builtin Go.Builtin.append, args := #[Go.Operand.tmp 16, Go.Operand.tmp 22], argTypes := #[31, 31] }, type := 31, pos := "l03_disk.go:137", after := #[{ on := 1, ground := Go.Ground.data }, { on := 7, ground := Go.Ground.data }, { on := 5, ground := Go.Ground.chain }], guard := none }) rfl (fun K hK => ?k53) AllReadyH.nil
              refine step_app _ (by rfl) _ _ 31 (by rfl) 74 wi0 (.agg #[.int .i64 0, .slice none 0 0]) 2 32 Try.underlying31 hwi0 hwz0 hwz1 hwz2 rfl (by omega) (by rfl) htt 1 (by rfl) tr (fun u hu => twoR hu rfl rfl) (by unfold maxLen; omega) (by omega) (by omega) ?_
              intro A3 c3 w10 hO hE hK2
              have he10 : Eff ta tb w9 w10 := hE
              have hz10 : w9.heap.size ≤ w10.heap.size := he10.size
              have b10 : Below W.heap.size W w10 := b9.trans (he10.below b9.size (by omega))
              replace h := (h.below (he10.below (B := W.heap.size) (by omega) (by omega)) (Nat.le_refl _))
              replace hrc := (hrc.below (he10.below (B := W.heap.size) (by omega) (by omega)) (Nat.le_refl _))
              replace hrw := (hrw.below (he10.below (B := W.heap.size) (by omega) (by omega)) (Nat.le_refl _))
              replace hi := (hi.below (he10.below (B := W.heap.size) (by omega) (by omega)) (Nat.le_refl _))
              replace hD := hD.keep he10 (by omega)
              replace y := y.keep he10 (by omega)
              replace res_f0 := (he10.frozen res_0 (by simp only; omega)).trans res_f0
              replace res_f1 := (he10.frozen res_1 (by simp only; omega)).trans res_f1
              replace out_f0 := (he10.frozen out_0 (by simp only; omega)).trans out_f0
              replace out_f1 := (he10.frozen out_1 (by simp only; omega)).trans out_f1
              replace aD_0 := he10.cell aD_0 (by simp only; omega)
              replace aD_1 := he10.cell aD_1 (by simp only; omega)
              replace res_0 := he10.cell res_0 (by simp only; omega)
              replace res_1 := he10.cell res_1 (by simp only; omega)
              replace out_0 := he10.cell out_0 (by simp only; omega)
              replace out_1 := he10.cell out_1 (by simp only; omega)
              replace aD_l := Nat.lt_of_lt_of_le aD_l hz10
              replace res_l := Nat.lt_of_lt_of_le res_l hz10
              replace out_l := Nat.lt_of_lt_of_le out_l hz10
              have hOffR := hC.snocOff (y := ⟨px, Ay, nx, cy, lx⟩) y1 (q := H) (Nat.le_refl _) (by omega) htb (by omega) hK2
              replace hC := hC.snoc (y := ⟨px, Ay, nx, cy, lx⟩) hey y1 hta HTQ.out heb hO hE hK2
              clear hE hO hK2 tr htt y y1 hey heb
              refine hK.out _ _ ?s53 (fun hHeld => ?_)
              case s53 => ((try dsimp only); (try trivial))
              clear hK K
              try simp only [Act.put, List.setIfInBounds_toArray, List.set_cons_zero, List.set_cons_succ]
              refine wpAnyH_take (i := 9) (oi := { dst := some 24, op := Go.Op.fieldAddr 33 (Go.Operand.tmp 8) 1, type := 0, pos := "l03_disk.go:137", after := #[{ on := 0, ground := Go.Ground.phase }, { on := 1, ground := Go.Ground.phase }, { on := 2, ground := Go.Ground.phase }, { on := 3, ground := Go.Ground.phase }, { on := 4, ground := Go.Ground.phase }, { on := 5, ground := Go.Ground.phase }, { on := 6, ground := Go.Ground.phase }, { on := 7, ground := Go.Ground.phase }, { on := 8, ground := Go.Ground.phase }], guard := none }) (v := ?v54) rfl (by kernel_rfl) (by kernel_rfl) (by kernel_rfl) (fun _ _ _ h => h) (Or.inl ⟨by rfl, ?y54⟩) (by assumption) ?_
              case y54 => (intro w hSw; (try dsimp only at hSw); go_simp; first | done | with_reducible rfl)
              try simp only [Act.put, List.setIfInBounds_toArray, List.set_cons_zero, List.set_cons_succ]
              refine wpAnyH_ready (rs := [10]) (by kernel_rfl) (by simp) ?_
              refine AllReadyH.cons (o := { dst := none, op := Go.Op.store 31 (Go.Operand.tmp 24) (Go.Operand.tmp 23), type := 0, pos := "l03_disk.go:137", after := #[{ on := 9, ground := Go.Ground.data }, { on := 8, ground := Go.Ground.data }, { on := 8, ground := Go.Ground.chain }, { on := 0, ground := Go.Ground.phase }, { on := 1, ground := Go.Ground.phase }, { on := 2, ground := Go.Ground.phase }, { on := 3, ground := Go.Ground.phase }, { on := 4, ground := Go.Ground.phase }, { on := 5, ground := Go.Ground.phase }, { on := 6, ground := Go.Ground.phase }, { on := 7, ground := Go.Ground.phase }, { on := 8, ground := Go.Ground.phase }], guard := none }) rfl (fun K hK => ?k55) AllReadyH.nil
              go_simp
              refine hK.out _ _ ?s55 (fun hHeld => ?_)
              case s55 => ((try dsimp only); (try trivial))
              clear hK K
              try simp only [Act.put]
              refine wpAnyH_done (by kernel_rfl) ?_ _
              have hsst : (w10.setCell ⟨H, 1, none⟩ (.slice A3 (nw + 1) c3)).heap.size = w10.heap.size := (by simp)
              have hOff2 := hOffR
              replace hC := hC.keepOff hOffR (eff_set w10 H 1 (.slice A3 (nw + 1) c3))
              have hsst : (w10.setCell ⟨H, 1, none⟩ (.slice A3 (nw + 1) c3)).heap.size = w10.heap.size := (by simp)
              replace hC := hC.wide (hi' := (w10.setCell ⟨H, 1, none⟩ (.slice A3 (nw + 1) c3)).heap.size) (Nat.le_refl _) (Nat.le_of_eq hsst.symm) (Nat.le_refl _)
              have he11 : Eff (H) (H + 1) w10 (w10.setCell ⟨H, 1, none⟩ (.slice A3 (nw + 1) c3)) := eff_set _ _ _ _
              replace res_f0 := (he11.frozen res_0 (by simp only; omega)).trans res_f0
              replace res_f1 := (he11.frozen res_1 (by simp only; omega)).trans res_f1
              replace out_f0 := set_frozen (p := ⟨H, 1, none⟩) out_f0 (.slice A3 (nw + 1) c3)
              replace out_f1 := set_frozen (p := ⟨H, 1, none⟩) out_f1 (.slice A3 (nw + 1) c3)
              replace aD_0 := he11.cell aD_0 (by simp only; omega)
              replace aD_1 := he11.cell aD_1 (by simp only; omega)
              replace res_0 := he11.cell res_0 (by simp only; omega)
              replace res_1 := he11.cell res_1 (by simp only; omega)
              replace out_0 := set_other (b' := H) (o' := 1) out_0 (.slice A3 (nw + 1) c3) (.inr (by omega))
              replace out_1 := set_same out_1 (.slice A3 (nw + 1) c3)
              have hz11 : w10.heap.size ≤ (w10.setCell ⟨H, 1, none⟩ (.slice A3 (nw + 1) c3)).heap.size := he11.size
              generalize (w10.setCell ⟨H, 1, none⟩ (.slice A3 (nw + 1) c3)) = w11 at *
              have b11 : Below W.heap.size W w11 := b10.trans (he11.below b10.size (by omega))
              replace h := (h.below (he11.below (B := W.heap.size) (by omega) (by omega)) (Nat.le_refl _))
              replace hrc := (hrc.below (he11.below (B := W.heap.size) (by omega) (by omega)) (Nat.le_refl _))
              replace hrw := (hrw.below (he11.below (B := W.heap.size) (by omega) (by omega)) (Nat.le_refl _))
              replace hi := (hi.below (he11.below (B := W.heap.size) (by omega) (by omega)) (Nat.le_refl _))
              replace hD := hD.keep he11 (by omega)
              replace aD_l := Nat.lt_of_lt_of_le aD_l hz11
              replace res_l := Nat.lt_of_lt_of_le res_l hz11
              replace out_l := Nat.lt_of_lt_of_le out_l hz11
              have QF : Hid ((es ++ [(⟨px, Ay, nx, cy, lx⟩ : Wr)]).map Wr.d = dw ++ [(px, lx)]) := Lib.hid (by rw [List.map_append, QE.out]; rfl)
              have hD1 := hD.lohi
              have hC1 := hC.lohi
              go_wp2_with fail
              refine (spec_DiskOk_d A1 nc c1 A3 (nw + 1) c3 dc (dw ++ [(px, lx)]) w11 ⟨cs, _, hD.rd (by omega), hC.rd (Nat.le_refl _), QD.out, QF.out⟩ HLB2.out).mono ?_
              rintro e w12 ⟨rfl, hb⟩
              have he12 : Eff 0 0 w11 w12 := Eff.of hb
              have hz12 : w11.heap.size ≤ w12.heap.size := he12.size
              have b12 : Below W.heap.size W w12 := b11.trans (he12.below b11.size (by omega))
              replace h := (h.below (he12.below (B := W.heap.size) (by omega) (by omega)) (Nat.le_refl _))
              replace hrc := (hrc.below (he12.below (B := W.heap.size) (by omega) (by omega)) (Nat.le_refl _))
              replace hrw := (hrw.below (he12.below (B := W.heap.size) (by omega) (by omega)) (Nat.le_refl _))
              replace hi := (hi.below (he12.below (B := W.heap.size) (by omega) (by omega)) (Nat.le_refl _))
              replace hD := hD.keep he12 (by omega)
              replace hC := hC.keep he12 (by omega)
              replace res_f0 := (he12.frozen res_0 (by simp only; omega)).trans res_f0
              replace res_f1 := (he12.frozen res_1 (by simp only; omega)).trans res_f1
              replace out_f0 := (he12.frozen out_0 (by simp only; omega)).trans out_f0
              replace out_f1 := (he12.frozen out_1 (by simp only; omega)).trans out_f1
              replace aD_0 := he12.cell aD_0 (by simp only; omega)
              replace aD_1 := he12.cell aD_1 (by simp only; omega)
              replace res_0 := he12.cell res_0 (by simp only; omega)
              replace res_1 := he12.cell res_1 (by simp only; omega)
              replace out_0 := he12.cell out_0 (by simp only; omega)
              replace out_1 := he12.cell out_1 (by simp only; omega)
              replace aD_l := Nat.lt_of_lt_of_le aD_l hz12
              replace res_l := Nat.lt_of_lt_of_le res_l hz12
              replace out_l := Nat.lt_of_lt_of_le out_l hz12
              clear hb
              rw [HOK2.out]
              rcases ok2 with _ | _
              · obtain rfl : RC = [] := by rw [← HRC.out]; rfl
                obtain rfl : RW = [] := by rw [← HRW.out]; rfl
                go_wp2
                refine bodyPost_ret (v := .tuple #[.agg #[.slice none 0 0, .slice none 0 0], .bool false]) (by simp [results, Try.results20, go_sem, *]) rfl ?_
                exact madeDT_no (b12.trans (eff_two.below b12.size (.inl (by omega))))
              · obtain rfl : RC = dc := by rw [← HRC.out]; rfl
                obtain rfl : RW = dw ++ [(px, lx)] := by rw [← HRW.out]; rfl
                go_wp2
                refine bodyPost_ret (v := .tuple #[.agg #[.slice A1 nc c1, .slice A3 (nw + 1) c3], .bool true]) (by simp [results, Try.results20, go_sem, *]) rfl ?_
                exact madeDT_two QD.out QF.out hD (hC.wide (Nat.le_refl _) he12.size (Nat.le_refl _)) b12 (g := W.heap.size + 1) (by omega) (by omega)
end Go.Proofs.Ytblenfhacaecmaa
