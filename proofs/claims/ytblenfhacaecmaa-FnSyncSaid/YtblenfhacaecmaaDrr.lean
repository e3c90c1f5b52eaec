/- DiskRead, in the program and in the reference. -/
import Derived.Test.YtblenfhacaecmaaDrd
namespace Go.Proofs.Ytblenfhacaecmaa
open Go.RowKit
theorem impl_diskRead_d (Ac : Option Addr) (nc cc : Nat) (Aw : Option Addr) (nw cw : Nat) (dc : List (List UInt8)) (dw : List (Int × List UInt8)) (p : Nat) (W : World) (h : RdDk W W.heap.size Ac nc Aw nw dc dw) (LB : lenB dc dw) (hp : p < nc) :
    Calls Try.prog 54 #[.agg #[.slice Ac nc cc, .slice Aw nw cw], .int .i64 (p : Int)] W (MadeB (readD dc dw (p : Int)).length (readD dc dw (p : Int)) W) := by
  have e2 := h.len.2
  obtain ⟨cs, ws, h1, h2, rfl, rfl⟩ := h
  obtain ⟨l1, l2, l3, l4⟩ := LB
  exact impl_diskRead_any Ac nc cc cs Aw nw cw ws p W h1 h2 (by omega) ⟨fun x hx => by have := ce_len h1 l3 x hx; omega, fun x hx => by have := wr_len h2 l4 x hx; omega⟩ hp
set_option maxHeartbeats 4000000 in
set_option maxRecDepth 100000 in
theorem impl_DiskRead_d (Ac : Option Addr) (nc cc : Nat) (Aw : Option Addr) (nw cw : Nat) (dc : List (List UInt8)) (dw : List (Int × List UInt8)) (p : Int) (W : World) (h : RdDk W W.heap.size Ac nc Aw nw dc dw) (LB : lenB dc dw) :
    Calls Try.prog 14 #[.agg #[.slice Ac nc cc, .slice Aw nw cw], .int .i64 p] W (MadeBT (drdB dc dw p) (drdOk dc dw p) W) := by
  have hlc := h.len.1
  have hlw := h.len.2
  have hncb : nc ≤ 1048576 := by have := LB.1; omega
  obtain ⟨u0, hu0, hv0, hv1, hv2⟩ := info_parts info_u8
  rcases hok : dkOk dc dw with _ | _
  · rw [show drdB dc dw p = [] by simp [drdB, drdOk, hok], show drdOk dc dw p = false by simp [drdOk, hok]]
    clear hlc hlw
    go_enter Try.func14, Try.ntmps14
    go_wp2_with (go_at_call 27; refine (impl_DiskOk_d Ac nc cc Aw nw cw dc dw _ ((h.below ((Below.refl _ _).alloc (Nat.le_refl _) _) (Nat.le_refl _)).more (by simp)) LB).mono ?_; rintro e w1 ⟨rfl, hb1⟩; rw [hok]; have hca : w1.cell? ⟨W.heap.size, 0, none⟩ = some (.slice Ac nc cc) := (hb1.cell (p := ⟨W.heap.size, 0, none⟩) (by simp)).trans (var_cell _ _ _ _ _ rfl); have hcb : w1.cell? ⟨W.heap.size, 1, none⟩ = some (.slice Aw nw cw) := (hb1.cell (p := ⟨W.heap.size, 1, none⟩) (by simp)).trans (var_cell _ _ _ _ _ rfl))
    go_ret2
    exact madeBT_no (((Below.refl _ _).alloc (Nat.le_refl _) _).trans (hb1.mono (by simp)))
  rcases hin : inB p 0 ((nc : Int) - 1) with _ | _
  · have hi2 := inB_gt hin
    rw [show drdB dc dw p = [] by simp only [drdB, drdOk, inD, hok, Bool.true_and, decide_eq_true_eq]; rw [if_neg (by omega)], show drdOk dc dw p = false by simp only [drdOk, inD, hok, Bool.true_and, decide_eq_false_iff_not]; omega]
    clear hlc hlw
    go_enter Try.func14, Try.ntmps14
    go_wp2_with (first | (go_at_call 27; refine (impl_DiskOk_d Ac nc cc Aw nw cw dc dw _ ((h.below ((Below.refl _ _).alloc (Nat.le_refl _) _) (Nat.le_refl _)).more (by simp)) LB).mono ?_; rintro e w1 ⟨rfl, hb1⟩; rw [hok]; have hca : w1.cell? ⟨W.heap.size, 0, none⟩ = some (.slice Ac nc cc) := (hb1.cell (p := ⟨W.heap.size, 0, none⟩) (by simp)).trans (var_cell _ _ _ _ _ rfl); have hcb : w1.cell? ⟨W.heap.size, 1, none⟩ = some (.slice Aw nw cw) := (hb1.cell (p := ⟨W.heap.size, 1, none⟩) (by simp)).trans (var_cell _ _ _ _ _ rfl)) | (go_at_call 53; refine (in_any _ _ _ _).mono ?_; rintro e w9 ⟨rfl, rfl⟩; rw [hin]))
    go_ret2
    exact madeBT_no (((Below.refl _ _).alloc (Nat.le_refl _) _).trans (hb1.mono (by simp)))
  have hi2 := inB_le hin
  obtain ⟨q, rfl⟩ : ∃ q : Nat, p = q := ⟨p.toNat, by omega⟩
  have hq : q < nc := by omega
  have hgood : drdOk dc dw (q : Int) = true := by simp only [drdOk, inD, hok, Bool.true_and, decide_eq_true_eq]; omega
  rw [show drdB dc dw (q : Int) = readD dc dw (q : Int) by simp only [drdB, hgood, if_true], hgood]
  clear hlc hlw hgood
  go_enter Try.func14, Try.ntmps14
  go_wp2_with (first | (go_at_call 27; refine (impl_DiskOk_d Ac nc cc Aw nw cw dc dw _ ((h.below ((Below.refl _ _).alloc (Nat.le_refl _) _) (Nat.le_refl _)).more (by simp)) LB).mono ?_; rintro e w1 ⟨rfl, hb1⟩; rw [hok]; have hca : w1.cell? ⟨W.heap.size, 0, none⟩ = some (.slice Ac nc cc) := (hb1.cell (p := ⟨W.heap.size, 0, none⟩) (by simp)).trans (var_cell _ _ _ _ _ rfl); have hcb : w1.cell? ⟨W.heap.size, 1, none⟩ = some (.slice Aw nw cw) := (hb1.cell (p := ⟨W.heap.size, 1, none⟩) (by simp)).trans (var_cell _ _ _ _ _ rfl)) | (go_at_call 53; refine (in_any _ _ _ _).mono ?_; rintro e w9 ⟨rfl, rfl⟩; rw [hin]) | (go_at_call 54; refine (impl_diskRead_d Ac nc cc Aw nw cw dc dw q _ ((h.below (((Below.refl _ _).alloc (Nat.le_refl _) _).trans (hb1.mono (by simp))) (Nat.le_refl _)).more (by have := hb1.size; simp at this; omega)) LB hq).mono ?_; rintro e w2 ⟨A2, c2, rfl, y, hb2⟩))
  go_ret2
  exact ⟨A2, _, c2, rfl, rfl, Own.wide y (by have := hb1.size; simp at this; omega) (Nat.le_refl _) (Nat.le_refl _), (((Below.refl _ _).alloc (Nat.le_refl _) _).trans (hb1.mono (by simp))).trans (hb2.mono (by have := hb1.size; simp at this; omega))⟩
set_option maxHeartbeats 4000000 in
set_option maxRecDepth 100000 in
theorem spec_DiskRead_d (Ac : Option Addr) (nc cc : Nat) (Aw : Option Addr) (nw cw : Nat) (dc : List (List UInt8)) (dw : List (Int × List UInt8)) (p : Int) (W : World) (h : RdDk W W.heap.size Ac nc Aw nw dc dw) (LB : lenB dc dw) :
    Calls Try.prog 12 #[.agg #[.slice Ac nc cc, .slice Aw nw cw], .int .i64 p] W (MadeBT (drdB dc dw p) (drdOk dc dw p) W) := by
  have hlc := h.len.1
  have hlw := h.len.2
  have hncb : nc ≤ 1048576 := by have := LB.1; omega
  obtain ⟨u0, hu0, hv0, hv1, hv2⟩ := info_parts info_u8
  rcases hok : dkOk dc dw with _ | _
  · rw [show drdB dc dw p = [] by simp [drdB, drdOk, hok], show drdOk dc dw p = false by simp [drdOk, hok]]
    clear hlc hlw
    go_enter Try.func12, Try.ntmps12
    go_wp2_with (go_at_call 26; refine (spec_DiskOk_d Ac nc cc Aw nw cw dc dw _ ((h.below ((Below.refl _ _).alloc (Nat.le_refl _) _) (Nat.le_refl _)).more (by simp)) LB).mono ?_; rintro e w1 ⟨rfl, hb1⟩; rw [hok]; have hca : w1.cell? ⟨W.heap.size, 0, none⟩ = some (.slice Ac nc cc) := (hb1.cell (p := ⟨W.heap.size, 0, none⟩) (by simp)).trans (var_cell _ _ _ _ _ rfl); have hcb : w1.cell? ⟨W.heap.size, 1, none⟩ = some (.slice Aw nw cw) := (hb1.cell (p := ⟨W.heap.size, 1, none⟩) (by simp)).trans (var_cell _ _ _ _ _ rfl))
    go_ret2
    exact madeBT_no (((Below.refl _ _).alloc (Nat.le_refl _) _).trans (hb1.mono (by simp)))
  by_cases hi1 : p < 0
  · rw [show drdB dc dw p = [] by simp only [drdB, drdOk, inD, hok, Bool.true_and, decide_eq_true_eq]; rw [if_neg (by omega)], show drdOk dc dw p = false by simp only [drdOk, inD, hok, Bool.true_and, decide_eq_false_iff_not]; omega]
    have hi1d : decide (p < 0) = true := by simpa using hi1
    clear hlc hlw
    go_enter Try.func12, Try.ntmps12
    go_wp2_with (go_at_call 26; refine (spec_DiskOk_d Ac nc cc Aw nw cw dc dw _ ((h.below ((Below.refl _ _).alloc (Nat.le_refl _) _) (Nat.le_refl _)).more (by simp)) LB).mono ?_; rintro e w1 ⟨rfl, hb1⟩; rw [hok]; have hca : w1.cell? ⟨W.heap.size, 0, none⟩ = some (.slice Ac nc cc) := (hb1.cell (p := ⟨W.heap.size, 0, none⟩) (by simp)).trans (var_cell _ _ _ _ _ rfl); have hcb : w1.cell? ⟨W.heap.size, 1, none⟩ = some (.slice Aw nw cw) := (hb1.cell (p := ⟨W.heap.size, 1, none⟩) (by simp)).trans (var_cell _ _ _ _ _ rfl))
    go_ret2
    exact madeBT_no (((Below.refl _ _).alloc (Nat.le_refl _) _).trans (hb1.mono (by simp)))
  have hi1d : decide (p < 0) = false := by simpa using hi1
  by_cases hi2 : (nc : Int) ≤ p
  · rw [show drdB dc dw p = [] by simp only [drdB, drdOk, inD, hok, Bool.true_and, decide_eq_true_eq]; rw [if_neg (by omega)], show drdOk dc dw p = false by simp only [drdOk, inD, hok, Bool.true_and, decide_eq_false_iff_not]; omega]
    have hi2d : decide ((nc : Int) ≤ p) = true := by simpa using hi2
    clear hlc hlw
    go_enter Try.func12, Try.ntmps12
    go_wp2_with (go_at_call 26; refine (spec_DiskOk_d Ac nc cc Aw nw cw dc dw _ ((h.below ((Below.refl _ _).alloc (Nat.le_refl _) _) (Nat.le_refl _)).more (by simp)) LB).mono ?_; rintro e w1 ⟨rfl, hb1⟩; rw [hok]; have hca : w1.cell? ⟨W.heap.size, 0, none⟩ = some (.slice Ac nc cc) := (hb1.cell (p := ⟨W.heap.size, 0, none⟩) (by simp)).trans (var_cell _ _ _ _ _ rfl); have hcb : w1.cell? ⟨W.heap.size, 1, none⟩ = some (.slice Aw nw cw) := (hb1.cell (p := ⟨W.heap.size, 1, none⟩) (by simp)).trans (var_cell _ _ _ _ _ rfl))
    go_ret2
    exact madeBT_no (((Below.refl _ _).alloc (Nat.le_refl _) _).trans (hb1.mono (by simp)))
  have hi2d : decide ((nc : Int) ≤ p) = false := by simpa using hi2
  obtain ⟨q, rfl⟩ : ∃ q : Nat, p = q := ⟨p.toNat, by omega⟩
  have hp : q < nc := by omega
  have hgood : drdOk dc dw (q : Int) = true := by simp only [drdOk, inD, hok, Bool.true_and, decide_eq_true_eq]; omega
  rw [show drdB dc dw (q : Int) = readD dc dw (q : Int) by simp only [drdB, hgood, if_true], hgood]
  obtain ⟨cs, ws, hrc, hrw, hdc, hdw⟩ := h
  have hl1 := ce_len hrc (m := 1048576) (by rw [hdc]; exact LB.2.2.1)
  have hl2 := wr_len hrw (m := 1048576) (by rw [hdw]; exact LB.2.2.2)
  have hnw : nw ≤ 1048576 := by have := LB.2.1; omega
  have HL1 := Lib.hid (fun x hx => Nat.le_trans (hl1 x hx) (by omega : 1048576 ≤ 1099511627776))
  have HL2 := Lib.hid (fun x hx => Nat.le_trans (hl2 x hx) (by omega : 1048576 ≤ 1099511627776))
  have HLW := Lib.hid (show ws.length = nw from hrw.len Wr.hf (by omega))
  have h : RdDk W W.heap.size Ac nc Aw nw dc dw := ⟨cs, ws, hrc, hrw, hdc, hdw⟩
  have HDC := Lib.hid hdc
  have HDW := Lib.hid hdw
  clear hlc hlw hgood hl1 hl2 hdc hdw hi1 hi2
  go_enter Try.func12, Try.ntmps12
  go_wp2_with (go_at_call 26; refine (spec_DiskOk_d Ac nc cc Aw nw cw dc dw _ ((h.below ((Below.refl _ _).alloc (Nat.le_refl _) _) (Nat.le_refl _)).more (by simp)) LB).mono ?_; rintro e w1 ⟨rfl, hb1⟩; rw [hok]; have hca : w1.cell? ⟨W.heap.size, 0, none⟩ = some (.slice Ac nc cc) := (hb1.cell (p := ⟨W.heap.size, 0, none⟩) (by simp)).trans (var_cell _ _ _ _ _ rfl); have hcb : w1.cell? ⟨W.heap.size, 1, none⟩ = some (.slice Aw nw cw) := (hb1.cell (p := ⟨W.heap.size, 1, none⟩) (by simp)).trans (var_cell _ _ _ _ _ rfl))
  have hb0 := ((Below.refl _ _).alloc (Nat.le_refl _) _).trans (hb1.mono (by simp))
  have hs0 : W.heap.size < w1.heap.size := by have := hb1.size; simp at this; omega
  have ha0 := hca
  have ha1 := hcb
  clear hca hcb hb1
  go_loopw [6] (fun vi wr => ∃ (k : Nat) (v : Int), k ≤ nw ∧ vi = .int .i64 v ∧ v = (k : Int) - 1 ∧ Below W.heap.size W wr ∧ W.heap.size < wr.heap.size ∧ wr.cell? ⟨W.heap.size, 0, none⟩ = some (.slice Ac nc cc) ∧ wr.cell? ⟨W.heap.size, 1, none⟩ = some (.slice Aw nw cw) ∧ Hid (rdW (q : Int) (ws.map Wr.d) = rdW (q : Int) ((ws.map Wr.d).take k))) (fun vi _ => (intOf vi + 1).toNat)
  case atStart => exact ⟨nw, _, Nat.le_refl _, rfl, by omega, hb0, hs0, ha0, ha1, Lib.hid (by rw [List.take_of_length_le (by rw [List.length_map, HLW.out]; exact Nat.le_refl _)])⟩
  case round =>
    clear hb0 ha0 ha1 hs0
    obtain ⟨k, v, hk, rfl, hv, hb, hz, ha0, ha1, HD⟩ := hrel
    rcases k with _ | j
    · obtain rfl : v = -1 := by omega
      clear hv
      have HN : Hid (rdW (q : Int) (ws.map Wr.d) = none) := Lib.hid (by rw [HD.out, List.take_zero]; rfl)
      obtain ⟨b, off, ⟨Ax, nx, cx, lx⟩, rfl, hbB, hx, hcell, hi, hcap⟩ := (hrc.below hb (Nat.le_refl _)).elem Ce.hf (by omega) hp
      have cc0 : wr.cell? ⟨b, off + q, none⟩ = some (.slice Ax nx cx) := by have := hcell 0 _ rfl; simpa [Nat.mul_one, Nat.add_assoc] using this
      replace hi : Rd wr W.heap.size 1 Ax nx (Lib.byteCells lx) := hi
      have hnx : nx ≤ 1099511627776 := HL1.out _ (List.mem_of_getElem? hx)
      have HR : Hid (readD (cs.map Ce.d) (ws.map Wr.d) (q : Int) = fullC lx) := Lib.hid (by rw [readD_none HN.out]; simp only [Int.toNat_natCast, List.getD, List.getElem?_map, hx]; rfl)
      have hp0 : (0 : Int) ≤ (q : Int) := by omega
      have hp1 : (q : Int) < (nc : Int) := by omega
      clear hcell hcap hx
  
      go_wp2_with (go_at_call 50; refine (spec_l03Full_any Ax nx cx lx _ (hi.more (by omega)) (by omega)).mono ?_; rintro e w1 ⟨A1, c1, rfl, y, hb1⟩)
      go_ret2
      rw [HDC.out, HDW.out] at HR
      exact madeBT_of ⟨A1, _, c1, rfl, rfl, Own.wide y (by omega) (Nat.le_refl _) (Nat.le_refl _), hb.trans (hb1.mono (by omega))⟩ HR.out.symm
    · obtain rfl : v = (j : Int) := by omega
      clear hv
      have hjn : j < nw := by omega
      obtain ⟨b, off, ⟨px, Ax, nx, cx, lx⟩, rfl, hbB, hx, hcell, hi, hcap⟩ := (hrw.below hb (Nat.le_refl _)).elem Wr.hf (by omega) hjn
      have cc0 : wr.cell? ⟨b, off + j * 2, none⟩ = some (.int .i64 px) := by have := hcell 0 _ rfl; simpa [Nat.add_assoc] using this
      have cc1 : wr.cell? ⟨b, off + j * 2 + 1, none⟩ = some (.slice Ax nx cx) := by have := hcell 1 _ rfl; simpa [Nat.add_assoc] using this
      replace hi : Rd wr W.heap.size 1 Ax nx (Lib.byteCells lx) := hi
      have hnx : nx ≤ 1099511627776 := HL2.out _ (List.mem_of_getElem? hx)
      have HX : Hid ((ws.map Wr.d)[j]? = some (px, lx)) := Lib.hid (by rw [List.getElem?_map, hx]; rfl)
      have hlx : lx.length = nx := len_of_rd hi
      have HLX := Lib.hid hlx
      have hj0 : (0 : Int) ≤ (j : Int) := by omega
      have hj1 : (j : Int) < (nw : Int) := by omega
      have hpz : (0 : Int) ≤ (q : Int) := by omega
      clear hcell hcap hx hlx
      by_cases hpp : px = (q : Int)
      · subst hpp
        have HR : Hid (readD (cs.map Ce.d) (ws.map Wr.d) (q : Int) = lx) := Lib.hid (readD_hit (by rw [HD.out, rdW_take HX.out, if_pos rfl]))
        have cc1a := cellA cc1 (.cells #[] 5)
        go_wp2_with (at_builtin; refine wpList_app _ rfl _ _ 27 rfl 5 u0 (.int .u8 0) 1 1 Try.underlying27 hu0 hv0 hv1 hv2 rfl (by omega) rfl (new_empty wr 5 1) cx rfl (hi.alloc (by omega) _) (byteCells_one' lx) (by unfold maxLen; omega) (by omega) (by simp) ?_; intro A2 c2 w1 hO hE hK)
        go_ret2
        rw [HDC.out, HDW.out] at HR
        have he := Eff.join (Eff.alloc _ _) hE (Nat.le_refl _)
        simp only [Nat.zero_add, List.nil_append] at hO
        exact madeBT_of ⟨A2, nx, c2, HLX.out.symm, by simp, Own.wide hO (by omega) (Nat.le_refl _) (Nat.le_refl _), hb.trans (he.below (by omega) (.inr (Nat.zero_le _)))⟩ HR.out.symm
      · have hpq : (px == (q : Int)) = false := by simpa using hpp
        have HR : Hid (rdW (q : Int) (ws.map Wr.d) = rdW (q : Int) ((ws.map Wr.d).take j)) := Lib.hid (by rw [HD.out, rdW_take HX.out, if_neg hpp])
        go_wp2
        go_roundw
        case rel => exact ⟨j, (j : Int) - 1, by omega, by go_num, rfl, hb, hz, ha0, ha1, HR⟩
        case measure => first | (simp [intOf]; done) | (simp [intOf]; omega)
end Go.Proofs.Ytblenfhacaecmaa
