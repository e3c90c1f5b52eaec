/- DiskOk and DiskNew, in the program and in the reference. -/
import Derived.Test.YtblenfhacaecmaaDsk
import Derived.Test.YtblenfhacaecmaaAmt1
namespace Go.Proofs.Ytblenfhacaecmaa
open Go.RowKit
def cOk (l : List UInt8) : Bool := decide (l.length = 0 ∨ l.length = 128)
def wOk (m : Nat) (x : Int × List UInt8) : Bool := decide (0 ≤ x.1 ∧ x.1 < (m : Int) ∧ x.2.length = 128)
/-- Is a disk valid? -/
def dkOk (dc : List (List UInt8)) (dw : List (Int × List UInt8)) : Bool := decide (1 ≤ dc.length ∧ dc.length ≤ 600 ∧ dw.length ≤ 600) && dc.all cOk && dw.all (wOk dc.length)
theorem dkOk_iff {dc : List (List UInt8)} {dw : List (Int × List UInt8)} : dkOk dc dw = true ↔ (1 ≤ dc.length ∧ dc.length ≤ 600 ∧ dw.length ≤ 600) ∧ (∀ l ∈ dc, l.length = 0 ∨ l.length = 128) ∧ ∀ x ∈ dw, 0 ≤ x.1 ∧ x.1 < (dc.length : Int) ∧ x.2.length = 128 := by
  simp only [dkOk, cOk, wOk, Bool.and_eq_true, decide_eq_true_eq, List.all_eq_true, and_assoc]
theorem dkOk_size {dc : List (List UInt8)} {dw : List (Int × List UInt8)} (h : ¬ (1 ≤ dc.length ∧ dc.length ≤ 600 ∧ dw.length ≤ 600)) : dkOk dc dw = false := by
  rw [Bool.eq_false_iff]; intro h1; exact h (dkOk_iff.1 h1).1
theorem dkOk_cell {dc : List (List UInt8)} {dw : List (Int × List UInt8)} {k : Nat} {l : List UInt8} (h : dc[k]? = some l) (h0 : l.length ≠ 0) (h1 : l.length ≠ 128) : dkOk dc dw = false := by
  rw [Bool.eq_false_iff]; intro h2; have := (dkOk_iff.1 h2).2.1 l (List.mem_of_getElem? h); omega
theorem dkOk_write {dc : List (List UInt8)} {dw : List (Int × List UInt8)} {k : Nat} {x : Int × List UInt8} (h : dw[k]? = some x) (h0 : ¬ (0 ≤ x.1 ∧ x.1 < (dc.length : Int) ∧ x.2.length = 128)) : dkOk dc dw = false := by
  rw [Bool.eq_false_iff]; intro h2; exact h0 ((dkOk_iff.1 h2).2.2 x (List.mem_of_getElem? h))
theorem all_step {α : Type} {p : α → Bool} {l : List α} {k : Nat} {x : α} (h : (l.take k).all p = true) (hx : l[k]? = some x) (hp : p x = true) : (l.take (k + 1)).all p = true := by
  rw [List.take_add_one, hx]; simp only [Option.toList_some, List.all_append, h, List.all_cons, hp, List.all_nil, Bool.and_true]
theorem dkOk_yes {dc : List (List UInt8)} {dw : List (Int × List UInt8)} {n m : Nat} (hn : dc.length = n) (hm : dw.length = m) (h : 1 ≤ n ∧ n ≤ 600 ∧ m ≤ 600) (h1 : (dc.take n).all cOk = true) (h2 : (dw.take m).all (wOk n) = true) : dkOk dc dw = true := by
  subst hn; subst hm
  rw [List.take_length] at h1 h2
  simp [dkOk, h, h1, h2]
theorem ret_boolD {a b : Bool} (h : a = b) : Ending.returned (.bool a) = .returned (.bool b) := by rw [h]
theorem cellA {w : World} {p : Addr} {u : Value} (h : w.cell? p = some u) (o : Obj) : (w.alloc o).cell? p = some u := (Eff.alloc w o).cell h (.inr (Nat.zero_le _))
set_option maxHeartbeats 4000000 in
set_option maxRecDepth 100000 in
theorem impl_DiskOk (Ac : Option Addr) (nc cc : Nat) (cs : List Ce) (Aw : Option Addr) (nw cw : Nat) (ws : List Wr) (W : World) (hrc : RdCell W W.heap.size Ac nc cs) (hrw : RdWrite W W.heap.size Aw nw ws) (hn : nc ≤ 1099511627776) (hn' : nw ≤ 1099511627776) :
    Calls Try.prog 27 #[.agg #[.slice Ac nc cc, .slice Aw nw cw]] W fun e w' => e = .returned (.bool (dkOk (cs.map Ce.d) (ws.map Wr.d))) ∧ Below W.heap.size W w' := by
  have hlc := hrc.len Ce.hf (by omega)
  have hlw := hrw.len Wr.hf (by omega)
  obtain ⟨r, hr0⟩ : ∃ r, dkOk (cs.map Ce.d) (ws.map Wr.d) = r := ⟨_, rfl⟩
  rw [hr0]
  have HR := Lib.hid hr0
  have HLC := Lib.hid (show (cs.map Ce.d).length = nc by rw [List.length_map, hlc])
  have HLW := Lib.hid (show (ws.map Wr.d).length = nw by rw [List.length_map, hlw])
  clear hr0 hlc hlw
  rcases h1 : inB (nc : Int) 1 600 with _ | _
  · have hF := Lib.hid (show false = r by rw [← HR.out]; exact (dkOk_size (by have := inB_gt h1; rw [HLC.out]; omega)).symm)
    go_enter Try.func27, Try.ntmps27
    go_wp2_with (first | (go_at_call 53; refine (in_any _ _ _ _).mono ?_; rintro e w9 ⟨rfl, rfl⟩; rw [h1]))
    go_ret
    exact ⟨ret_boolD hF.out, (Below.refl _ _).alloc (Nat.le_refl _) _⟩
  have hn1 := inB_le h1
  by_cases h2 : 600 < nw
  · have h2d : decide ((600 : Int) < (nw : Int)) = true := by simp; omega
    have hF := Lib.hid (show false = r by rw [← HR.out]; exact (dkOk_size (by rw [HLW.out]; omega)).symm)
    go_enter Try.func27, Try.ntmps27
    go_wp2_with (first | (go_at_call 53; refine (in_any _ _ _ _).mono ?_; rintro e w9 ⟨rfl, rfl⟩; rw [h1]))
    go_ret
    exact ⟨ret_boolD hF.out, (Below.refl _ _).alloc (Nat.le_refl _) _⟩
  have h2d : decide ((600 : Int) < (nw : Int)) = false := by simp; omega
  have h2' : nw ≤ 600 := by omega
  clear h2
  have hnc1 : 1 ≤ nc ∧ nc ≤ 600 := by omega
  obtain ⟨hnc1, hnc2⟩ := hnc1
  go_enter Try.func27, Try.ntmps27
  go_wp2_with (first | (go_at_call 53; refine (in_any _ _ _ _).mono ?_; rintro e w9 ⟨rfl, rfl⟩; rw [h1]))
  have hb0 : Below W.heap.size W (W.alloc (.cells #[.slice Ac nc cc, .slice Aw nw cw] 33)) := (Below.refl _ _).alloc (Nat.le_refl _) _
  have hc0 : (W.alloc (.cells #[.slice Ac nc cc, .slice Aw nw cw] 33)).cell? ⟨W.heap.size, 0, none⟩ = some (.slice Ac nc cc) := var_cell _ _ _ _ _ rfl
  have hc1 : (W.alloc (.cells #[.slice Ac nc cc, .slice Aw nw cw] 33)).cell? ⟨W.heap.size, 1, none⟩ = some (.slice Aw nw cw) := var_cell _ _ _ _ _ rfl
  have hs0 : (W.alloc (.cells #[.slice Ac nc cc, .slice Aw nw cw] 33)).heap.size = W.heap.size + 1 := (by simp)
  generalize (W.alloc (.cells #[.slice Ac nc cc, .slice Aw nw cw] 33)) = w0 at *
  go_loopw [21] (fun vi wr => ∃ k : Nat, k ≤ nc ∧ vi = .int .i64 (k : Int) ∧ Below W.heap.size W wr ∧ W.heap.size < wr.heap.size ∧ wr.cell? ⟨W.heap.size, 0, none⟩ = some (.slice Ac nc cc) ∧ wr.cell? ⟨W.heap.size, 1, none⟩ = some (.slice Aw nw cw) ∧ Hid (((cs.map Ce.d).take k).all cOk = true)) (fun vi _ => nc - (intOf vi).toNat)
  case atStart => exact ⟨0, Nat.zero_le _, rfl, hb0, by omega, hc0, hc1, Lib.hid (by simp)⟩
  case round =>
    clear hb0 hc0 hc1 hs0
    obtain ⟨k, hk, rfl, hb, hz, hc0, hc1, HA⟩ := hrel
    by_cases hlt : k < nc
    · obtain ⟨b, off, ⟨Ax, nx, cx, lx⟩, rfl, hbB, hx, hcell, hi, hcap⟩ := (hrc.below hb (Nat.le_refl _)).elem Ce.hf (by omega) hlt
      have cc0 : wr.cell? ⟨b, off + k, none⟩ = some (.slice Ax nx cx) := by have := hcell 0 _ rfl; simpa [Nat.mul_one, Nat.add_assoc] using this
      have hlx : lx.length = nx := len_of_rd hi
      have HX := Lib.hid (show (cs.map Ce.d)[k]? = some lx by rw [List.getElem?_map, hx]; rfl)
      have HLX := Lib.hid hlx
      clear hcell hi hcap hx hlx
      by_cases hn0 : nx = 0
      · subst hn0
        have HS := Lib.hid (all_step HA.out HX.out (by have := HLX.out; simp [cOk, this]))
        go_wp2
        go_roundw
        case rel => exact ⟨k + 1, by omega, by go_num, hb.alloc (by omega) _, by simp; omega, cellA hc0 _, cellA hc1 _, HS⟩
        case measure => simp [intOf]; omega
      · have hn0d : ((nx : Int) != 0) = true := by simp; omega
        by_cases hn8 : nx = 128
        · subst hn8
          have HS := Lib.hid (all_step HA.out HX.out (by have := HLX.out; simp [cOk, this]))
          go_wp2
          go_roundw
          case rel => exact ⟨k + 1, by omega, by go_num, hb.alloc (by omega) _, by simp; omega, cellA hc0 _, cellA hc1 _, HS⟩
          case measure => simp [intOf]; omega
        · have hn8d : ((nx : Int) != 128) = true := by simp; omega
          have hF := Lib.hid (show false = r by rw [← HR.out]; exact (dkOk_cell HX.out (by have := HLX.out; omega) (by have := HLX.out; omega)).symm)
          clear hn0 hn8
          go_wp2
          go_ret
          exact ⟨ret_boolD hF.out, hb.alloc (by omega) _⟩
    · have hge : nc = k := by omega
      subst hge
      clear hk hlt
      go_wp2
      obtain ⟨wo, rfl⟩ : ∃ wo : World, wo = wr := ⟨_, rfl⟩
      go_loopw [39] (fun vi wr => ∃ j : Nat, j ≤ nw ∧ vi = .int .i64 (j : Int) ∧ Below W.heap.size W wr ∧ W.heap.size < wr.heap.size ∧ wr.cell? ⟨W.heap.size, 0, none⟩ = some (.slice Ac nc cc) ∧ wr.cell? ⟨W.heap.size, 1, none⟩ = some (.slice Aw nw cw) ∧ Hid (((ws.map Wr.d).take j).all (wOk nc) = true)) (fun vi _ => nw - (intOf vi).toNat)
      case atStart => exact ⟨0, Nat.zero_le _, rfl, hb, by omega, hc0, hc1, Lib.hid (by simp)⟩
      case round =>
        clear hb hc0 hc1 hz
        obtain ⟨j, hk, rfl, hb, hz, hc0, hc1, HB⟩ := hrel
        by_cases hlt : j < nw
        · obtain ⟨b, off, ⟨px, Ax, nx, cx, lx⟩, rfl, hbB, hx, hcell, hi, hcap⟩ := (hrw.below hb (Nat.le_refl _)).elem Wr.hf (by omega) hlt
          have cc0 : wr.cell? ⟨b, off + j * 2, none⟩ = some (.int .i64 px) := by have := hcell 0 _ rfl; simpa [Nat.add_assoc] using this
          have cc1 : wr.cell? ⟨b, off + j * 2 + 1, none⟩ = some (.slice Ax nx cx) := by have := hcell 1 _ rfl; simpa [Nat.add_assoc] using this
          have hlx : lx.length = nx := len_of_rd hi
          have HX := Lib.hid (show (ws.map Wr.d)[j]? = some (px, lx) by rw [List.getElem?_map, hx]; rfl)
          have HLX := Lib.hid hlx
          clear hcell hi hcap hx hlx
          rcases hin : inB px 0 ((nc : Int) - 1) with _ | _
          · have hpx := inB_gt hin
            have hF := Lib.hid (show false = r by rw [← HR.out]; exact (dkOk_write HX.out (by have := HLX.out; have := HLC.out; simp only; omega)).symm)
            go_wp2_with (first | (go_at_call 53; refine (in_any _ _ _ _).mono ?_; rintro e w9 ⟨rfl, rfl⟩; rw [hin]))
            go_ret
            exact ⟨ret_boolD hF.out, hb.alloc (by omega) _⟩
          · have hpx := inB_le hin
            by_cases hn8 : nx = 128
            · subst hn8
              have HS := Lib.hid (all_step HB.out HX.out (by have := HLX.out; simp only [wOk, decide_eq_true_eq]; omega))
              go_wp2_with (first | (go_at_call 53; refine (in_any _ _ _ _).mono ?_; rintro e w9 ⟨rfl, rfl⟩; rw [hin]))
              go_roundw
              case rel => exact ⟨j + 1, by omega, by go_num, hb.alloc (by omega) _, by simp; omega, cellA hc0 _, cellA hc1 _, HS⟩
              case measure => simp [intOf]; omega
            · have hn8d : ((nx : Int) != 128) = true := by simp; omega
              have hF := Lib.hid (show false = r by rw [← HR.out]; exact (dkOk_write HX.out (by have := HLX.out; have := HLC.out; simp only; omega)).symm)
              go_wp2_with (first | (go_at_call 53; refine (in_any _ _ _ _).mono ?_; rintro e w9 ⟨rfl, rfl⟩; rw [hin]))
              go_ret
              exact ⟨ret_boolD hF.out, hb.alloc (by omega) _⟩
        · have hge : j = nw := by omega
          subst hge
          go_wp2
          go_ret
          exact ⟨ret_boolD (by rw [← HR.out]; exact (dkOk_yes HLC.out HLW.out ⟨by omega, by omega, by omega⟩ HA.out HB.out).symm), hb⟩
set_option maxHeartbeats 4000000 in
set_option maxRecDepth 100000 in
theorem spec_DiskOk (Ac : Option Addr) (nc cc : Nat) (cs : List Ce) (Aw : Option Addr) (nw cw : Nat) (ws : List Wr) (W : World) (hrc : RdCell W W.heap.size Ac nc cs) (hrw : RdWrite W W.heap.size Aw nw ws) (hn : nc ≤ 1099511627776) (hn' : nw ≤ 1099511627776) :
    Calls Try.prog 26 #[.agg #[.slice Ac nc cc, .slice Aw nw cw]] W fun e w' => e = .returned (.bool (dkOk (cs.map Ce.d) (ws.map Wr.d))) ∧ Below W.heap.size W w' := by
  have hlc := hrc.len Ce.hf (by omega)
  have hlw := hrw.len Wr.hf (by omega)
  obtain ⟨r, hr0⟩ : ∃ r, dkOk (cs.map Ce.d) (ws.map Wr.d) = r := ⟨_, rfl⟩
  rw [hr0]
  have HR := Lib.hid hr0
  have HLC := Lib.hid (show (cs.map Ce.d).length = nc by rw [List.length_map, hlc])
  have HLW := Lib.hid (show (ws.map Wr.d).length = nw by rw [List.length_map, hlw])
  clear hr0 hlc hlw
  by_cases h1 : nc < 1
  · have hF := Lib.hid (show false = r by rw [← HR.out]; exact (dkOk_size (by rw [HLC.out]; omega)).symm)
    have hd1 : decide ((nc : Int) < 1) = true := by simp; omega
    go_enter Try.func26, Try.ntmps26
    go_wp2
    go_ret
    exact ⟨ret_boolD hF.out, (Below.refl _ _).alloc (Nat.le_refl _) _⟩
  have hd1 : decide ((nc : Int) < 1) = false := by simp; omega
  by_cases h2 : 600 < nc
  · have hF := Lib.hid (show false = r by rw [← HR.out]; exact (dkOk_size (by rw [HLC.out]; omega)).symm)
    have hd2 : decide ((600 : Int) < (nc : Int)) = true := by simp; omega
    go_enter Try.func26, Try.ntmps26
    go_wp2
    go_ret
    exact ⟨ret_boolD hF.out, (Below.refl _ _).alloc (Nat.le_refl _) _⟩
  have hd2 : decide ((600 : Int) < (nc : Int)) = false := by simp; omega
  by_cases h3 : 600 < nw
  · have hF := Lib.hid (show false = r by rw [← HR.out]; exact (dkOk_size (by rw [HLW.out]; omega)).symm)
    have hd3 : decide ((600 : Int) < (nw : Int)) = true := by simp; omega
    go_enter Try.func26, Try.ntmps26
    go_wp2
    go_ret
    exact ⟨ret_boolD hF.out, (Below.refl _ _).alloc (Nat.le_refl _) _⟩
  have hd3 : decide ((600 : Int) < (nw : Int)) = false := by simp; omega
  have hnc1 : 1 ≤ nc := by omega
  have hnc2 : nc ≤ 600 := by omega
  have h2' : nw ≤ 600 := by omega
  clear h1 h2 h3
  go_enter Try.func26, Try.ntmps26
  go_wp2
  have hb0 : Below W.heap.size W (W.alloc (.cells #[.slice Ac nc cc, .slice Aw nw cw] 33)) := (Below.refl _ _).alloc (Nat.le_refl _) _
  have hc0 : (W.alloc (.cells #[.slice Ac nc cc, .slice Aw nw cw] 33)).cell? ⟨W.heap.size, 0, none⟩ = some (.slice Ac nc cc) := var_cell _ _ _ _ _ rfl
  have hc1 : (W.alloc (.cells #[.slice Ac nc cc, .slice Aw nw cw] 33)).cell? ⟨W.heap.size, 1, none⟩ = some (.slice Aw nw cw) := var_cell _ _ _ _ _ rfl
  have hs0 : (W.alloc (.cells #[.slice Ac nc cc, .slice Aw nw cw] 33)).heap.size = W.heap.size + 1 := (by simp)
  generalize (W.alloc (.cells #[.slice Ac nc cc, .slice Aw nw cw] 33)) = w0 at *
  go_loopw [26] (fun vi wr => ∃ k : Nat, k ≤ nc ∧ vi = .int .i64 (k : Int) ∧ Below W.heap.size W wr ∧ W.heap.size < wr.heap.size ∧ wr.cell? ⟨W.heap.size, 0, none⟩ = some (.slice Ac nc cc) ∧ wr.cell? ⟨W.heap.size, 1, none⟩ = some (.slice Aw nw cw) ∧ Hid (((cs.map Ce.d).take k).all cOk = true)) (fun vi _ => nc - (intOf vi).toNat)
  case atStart => exact ⟨0, Nat.zero_le _, rfl, hb0, by omega, hc0, hc1, Lib.hid (by simp)⟩
  case round =>
    clear hb0 hc0 hc1 hs0
    obtain ⟨k, hk, rfl, hb, hz, hc0, hc1, HA⟩ := hrel
    by_cases hlt : k < nc
    · obtain ⟨b, off, ⟨Ax, nx, cx, lx⟩, rfl, hbB, hx, hcell, hi, hcap⟩ := (hrc.below hb (Nat.le_refl _)).elem Ce.hf (by omega) hlt
      have cc0 : wr.cell? ⟨b, off + k, none⟩ = some (.slice Ax nx cx) := by have := hcell 0 _ rfl; simpa [Nat.mul_one, Nat.add_assoc] using this
      have hlx : lx.length = nx := len_of_rd hi
      have HX := Lib.hid (show (cs.map Ce.d)[k]? = some lx by rw [List.getElem?_map, hx]; rfl)
      have HLX := Lib.hid hlx
      clear hcell hi hcap hx hlx
      by_cases hn0 : nx = 0
      · subst hn0
        have HS := Lib.hid (all_step HA.out HX.out (by have := HLX.out; simp [cOk, this]))
        go_wp2
        go_roundw
        case rel => exact ⟨k + 1, by omega, by go_num, hb.alloc (by omega) _, by simp; omega, cellA hc0 _, cellA hc1 _, HS⟩
        case measure => simp [intOf]; omega
      · have hn0d : ((nx : Int) != 0) = true := by simp; omega
        by_cases hn8 : nx = 128
        · subst hn8
          have HS := Lib.hid (all_step HA.out HX.out (by have := HLX.out; simp [cOk, this]))
          go_wp2
          go_roundw
          case rel => exact ⟨k + 1, by omega, by go_num, hb.alloc (by omega) _, by simp; omega, cellA hc0 _, cellA hc1 _, HS⟩
          case measure => simp [intOf]; omega
        · have hn8d : ((nx : Int) != 128) = true := by simp; omega
          have hF := Lib.hid (show false = r by rw [← HR.out]; exact (dkOk_cell HX.out (by have := HLX.out; omega) (by have := HLX.out; omega)).symm)
          clear hn0 hn8
          go_wp2
          go_ret
          exact ⟨ret_boolD hF.out, hb.alloc (by omega) _⟩
    · have hge : nc = k := by omega
      subst hge
      clear hk hlt
      go_wp2
      obtain ⟨wo, rfl⟩ : ∃ wo : World, wo = wr := ⟨_, rfl⟩
      go_loopw [44] (fun vi wr => ∃ j : Nat, j ≤ nw ∧ vi = .int .i64 (j : Int) ∧ Below W.heap.size W wr ∧ W.heap.size < wr.heap.size ∧ wr.cell? ⟨W.heap.size, 0, none⟩ = some (.slice Ac nc cc) ∧ wr.cell? ⟨W.heap.size, 1, none⟩ = some (.slice Aw nw cw) ∧ Hid (((ws.map Wr.d).take j).all (wOk nc) = true)) (fun vi _ => nw - (intOf vi).toNat)
      case atStart => exact ⟨0, Nat.zero_le _, rfl, hb, by omega, hc0, hc1, Lib.hid (by simp)⟩
      case round =>
        clear hb hc0 hc1 hz
        obtain ⟨j, hk, rfl, hb, hz, hc0, hc1, HB⟩ := hrel
        by_cases hlt : j < nw
        · obtain ⟨b, off, ⟨px, Ax, nx, cx, lx⟩, rfl, hbB, hx, hcell, hi, hcap⟩ := (hrw.below hb (Nat.le_refl _)).elem Wr.hf (by omega) hlt
          have cc0 : wr.cell? ⟨b, off + j * 2, none⟩ = some (.int .i64 px) := by have := hcell 0 _ rfl; simpa [Nat.add_assoc] using this
          have cc1 : wr.cell? ⟨b, off + j * 2 + 1, none⟩ = some (.slice Ax nx cx) := by have := hcell 1 _ rfl; simpa [Nat.add_assoc] using this
          have hlx : lx.length = nx := len_of_rd hi
          have HX := Lib.hid (show (ws.map Wr.d)[j]? = some (px, lx) by rw [List.getElem?_map, hx]; rfl)
          have HLX := Lib.hid hlx
          clear hcell hi hcap hx hlx
          by_cases hp0 : px < 0
          · have hp0d : decide (px < 0) = true := by simpa using hp0
            have hF := Lib.hid (show false = r by rw [← HR.out]; exact (dkOk_write HX.out (by have := HLX.out; have := HLC.out; simp only; omega)).symm)
            go_wp2
            go_ret
            exact ⟨ret_boolD hF.out, hb.alloc (by omega) _⟩
          · have hp0d : decide (px < 0) = false := by simpa using hp0
            by_cases hp1 : (nc : Int) ≤ px
            · have hp1d : decide ((nc : Int) ≤ px) = true := by simpa using hp1
              have hF := Lib.hid (show false = r by rw [← HR.out]; exact (dkOk_write HX.out (by have := HLX.out; have := HLC.out; simp only; omega)).symm)
              go_wp2
              go_ret
              exact ⟨ret_boolD hF.out, hb.alloc (by omega) _⟩
            · have hp1d : decide ((nc : Int) ≤ px) = false := by simpa using hp1
              by_cases hn8 : nx = 128
              · subst hn8
                have HS := Lib.hid (all_step HB.out HX.out (by have := HLX.out; simp only [wOk, decide_eq_true_eq]; omega))
                go_wp2
                go_roundw
                case rel => exact ⟨j + 1, by omega, by go_num, hb.alloc (by omega) _, by simp; omega, cellA hc0 _, cellA hc1 _, HS⟩
                case measure => simp [intOf]; omega
              · have hn8d : ((nx : Int) != 128) = true := by simp; omega
                have hF := Lib.hid (show false = r by rw [← HR.out]; exact (dkOk_write HX.out (by have := HLX.out; have := HLC.out; simp only; omega)).symm)
                go_wp2
                go_ret
                exact ⟨ret_boolD hF.out, hb.alloc (by omega) _⟩
        · have hge : j = nw := by omega
          subst hge
          go_wp2
          go_ret
          exact ⟨ret_boolD (by rw [← HR.out]; exact (dkOk_yes HLC.out HLW.out ⟨by omega, by omega, by omega⟩ HA.out HB.out).symm), hb⟩
end Go.Proofs.Ytblenfhacaecmaa
