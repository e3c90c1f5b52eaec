/- Draws of disks, changed (l03AnyDisk, DrawDiskSync). -/
import Derived.Test.YtblenfhacaecmaaSyd
namespace Go.Proofs.Ytblenfhacaecmaa
open Go.RowKit
theorem Inns.congr {α : Type} {it s lo hi : Nat} {g : α → Sl} {w : World} {ob : Option Nat} {es es' : List α} (h : Inns it s g w lo hi ob es) (hm : es'.map g = es.map g) : Inns it s g w lo hi ob es' := by
  have hx : ∀ (i : Nat) (x : α), es'[i]? = some x → ∃ x0, es[i]? = some x0 ∧ g x0 = g x := by
    intro i x hi
    have h1 : (es'.map g)[i]? = some (g x) := by rw [List.getElem?_map, hi]; rfl
    rw [hm, List.getElem?_map] at h1
    obtain ⟨x0, h2, h3⟩ := Option.map_eq_some_iff.1 h1
    exact ⟨x0, h2, h3⟩
  have hmem : ∀ x ∈ es', ∃ x0 ∈ es, g x0 = g x := by
    intro x hx'
    obtain ⟨i, hi⟩ := List.getElem?_of_mem hx'
    obtain ⟨x0, h1, h2⟩ := hx i x hi
    exact ⟨x0, List.mem_of_getElem? h1, h2⟩
  refine ⟨fun x hx' => ?_, fun x hx' b hb => ?_, fun i j x y b hi hj hbx hby => ?_, h.le, h.lohi⟩
  · obtain ⟨x0, h1, h2⟩ := hmem x hx'
    rw [← h2]; exact h.inn x0 h1
  · obtain ⟨x0, h1, h2⟩ := hmem x hx'
    exact h.out x0 h1 b (by rw [h2]; exact hb)
  · obtain ⟨x0, h1, h2⟩ := hx i x hi
    obtain ⟨y0, h3, h4⟩ := hx j y hj
    exact h.pw i j x0 y0 b h1 h3 (by rw [h2]; exact hbx) (by rw [h4]; exact hby)
/-- A disk whose two rows lie from lo on. -/
def Dk2 (w : World) (lo : Nat) (Ac : Option Addr) (nc cc : Nat) (Aw : Option Addr) (nw cw : Nat) (dc : List (List UInt8)) (dw : List (Int × List UInt8)) : Prop :=
  ∃ hi lo2 hi2 cs ws, OwnCell w lo hi Ac nc cc cs ∧ OwnWrite w lo2 hi2 Aw nw cw ws ∧ lo ≤ lo2 ∧ cs.map Ce.d = dc ∧ ws.map Wr.d = dw
theorem Dk2.keep {w w' : World} {lo a b nc cc nw cw : Nat} {Ac Aw : Option Addr} {dc : List (List UInt8)} {dw : List (Int × List UInt8)} (h : Dk2 w lo Ac nc cc Aw nw cw dc dw) (he : Eff a b w w') (hb : b ≤ lo) : Dk2 w' lo Ac nc cc Aw nw cw dc dw := by
  obtain ⟨hi, lo2, hi2, cs, ws, h1, h2, h3, h4, h5⟩ := h
  exact ⟨hi, lo2, hi2, cs, ws, h1.keep he (by omega), h2.keep he (by omega), h3, h4, h5⟩
theorem Dk2.rd {w : World} {lo nc cc nw cw : Nat} {Ac Aw : Option Addr} {dc : List (List UInt8)} {dw : List (Int × List UInt8)} (h : Dk2 w lo Ac nc cc Aw nw cw dc dw) : RdDk w w.heap.size Ac nc Aw nw dc dw := by
  obtain ⟨hi, lo2, hi2, cs, ws, h1, h2, h3, h4, h5⟩ := h
  exact ⟨cs, ws, h1.rd h1.le, h2.rd h2.le, h4, h5⟩
theorem OwnD.two {w : World} {lo hi nc cc nw cw : Nat} {Ac Aw : Option Addr} {dc : List (List UInt8)} {dw : List (Int × List UInt8)} (h : OwnD w lo hi Ac nc cc Aw nw cw dc dw) : Dk2 w lo Ac nc cc Aw nw cw dc dw := by
  obtain ⟨cs, ws, ⟨m, h1, h2⟩, h3, h4⟩ := h
  exact ⟨m, m, hi, cs, ws, h1, h2, h1.lohi, h3, h4⟩
theorem OwnD.nocells {w : World} {lo hi nc cc nw cw : Nat} {Ac Aw : Option Addr} {dc : List (List UInt8)} {dw : List (Int × List UInt8)} (h : OwnD w lo hi Ac nc cc Aw nw cw dc dw) : Dk2 w lo none 0 0 Aw nw cw [] dw := by
  obtain ⟨cs, ws, ⟨m, h1, h2⟩, h3, h4⟩ := h
  exact ⟨m, m, hi, [], ws, OwnR.nil h1.lohi h1.le, h2, h1.lohi, rfl, h4⟩
/-- The first cell: where it lies. -/
theorem OwnD.first {w : World} {lo hi nc cc nw cw : Nat} {Ac Aw : Option Addr} {dc : List (List UInt8)} {dw : List (Int × List UInt8)} (h : OwnD w lo hi Ac nc cc Aw nw cw dc dw) (hn : 0 < nc) : ∃ gb v, Ac = some ⟨gb, 0, none⟩ ∧ lo ≤ gb ∧ gb < hi ∧ w.cell? ⟨gb, 0, none⟩ = some v ∧ w.frozen? ⟨gb, 0, none⟩ = false ∧
    Dk2 ((w.alloc (.cells #[.int .u8 1] 5)).setCell ⟨gb, 0, none⟩ (.slice (some ⟨w.heap.size, 0, none⟩) 1 1)) lo Ac nc cc Aw nw cw (dc.set 0 [1]) dw := by
  obtain ⟨cs, ws, ⟨m, h1, h2⟩, h3, h4⟩ := h
  obtain ⟨gb, rfl, hg1, hg2, hc, hf⟩ := Own.form h1.row hn
  obtain ⟨A, m', c', l, hx, hcell, hfz, -, -, -⟩ := cell_outs h1 hn
  have hle := h1.le
  have hle2 := h2.le
  have hmm := h2.lohi
  refine ⟨gb, _, rfl, hg1, by omega, hcell, hfz, ?_⟩
  have ha := Eff.alloc w (.cells #[.int .u8 1] 5)
  have has : (w.alloc (.cells #[.int .u8 1] 5)).heap.size = w.heap.size + 1 := by simp
  have hy := Own.wide (new_row1 w (.int .u8 1) 5) (Nat.le_refl _) (Nat.le_of_eq has.symm) (Nat.le_refl _)
  have es := eff_set (w.alloc (.cells #[.int .u8 1] 5)) gb 0 (.slice (some ⟨w.heap.size, 0, none⟩) 1 1)
  have hC2 := h1.setNew (i := 0) (gb := gb) (y := (⟨some ⟨w.heap.size, 0, none⟩, 1, 1, [1]⟩ : Ce)) ha hy rfl es (fun xs q1 q2 => cell_stored (y := (⟨some ⟨w.heap.size, 0, none⟩, 1, 1, [1]⟩ : Ce)) hx q1 q2)
  exact ⟨_, m, hi, cs.set 0 ⟨some ⟨w.heap.size, 0, none⟩, 1, 1, [1]⟩, ws, hC2, (h2.keep ha (.inr (.inr (Nat.le_refl _)))).keep es (by omega), h1.lohi, by rw [List.map_set, h3]; rfl, h4⟩
/-- The first write: where it lies. -/
theorem OwnD.firstW {w : World} {lo hi nc cc nw cw : Nat} {Ac Aw : Option Addr} {dc : List (List UInt8)} {dw : List (Int × List UInt8)} (h : OwnD w lo hi Ac nc cc Aw nw cw dc dw) (hn : 0 < nw) (z : Int) : ∃ gb v, Aw = some ⟨gb, 0, none⟩ ∧ lo ≤ gb ∧ gb < hi ∧ w.cell? ⟨gb, 0, none⟩ = some v ∧ w.frozen? ⟨gb, 0, none⟩ = false ∧
    ∃ dw2, dw2.map (·.2) = dw.map (·.2) ∧ Dk2 (w.setCell ⟨gb, 0, none⟩ (.int .i64 z)) lo Ac nc cc Aw nw cw dc dw2 := by
  obtain ⟨cs, ws, ⟨m, h1, h2⟩, h3, h4⟩ := h
  obtain ⟨gb, rfl, hg1, hg2, hc, hf⟩ := Own.form h2.row hn
  have hwl := h2.len Wr.hf (by omega)
  obtain ⟨x, hx⟩ : ∃ x, ws[0]? = some x := ⟨_, List.getElem?_eq_getElem (show 0 < ws.length by omega)⟩
  have hc0 := hc 0 (by omega)
  have hf0 : (ws.flatMap Wr.f)[0]? = some (.int .i64 x.pos) := by
    cases ws with
    | nil => simp at hx
    | cons y t => simp at hx; subst hx; rfl
  have hle := h1.le
  have hlh := h1.lohi
  have es := eff_set w gb 0 (.int .i64 z)
  refine ⟨gb, _, rfl, by omega, hg2, hc0.trans hf0, hf 0, (ws.set 0 ⟨z, x.A, x.n, x.c, x.l⟩).map Wr.d, ?_, ?_⟩
  · rw [← h4, List.map_map, List.map_map]
    cases ws with
    | nil => simp at hx
    | cons y t => simp at hx; subst hx; rfl
  · have hr := (Own.stored h2.row 0 (.int .i64 z)).1
    have hset := flat_setcell Wr.hf (i := 0) (j := 0) (x := x) (y := ⟨z, x.A, x.n, x.c, x.l⟩) (u := .int .i64 z) hx (by omega) rfl
    rw [Nat.zero_mul] at hset
    rw [hset] at hr
    refine ⟨m, m, hi, cs, ws.set 0 ⟨z, x.A, x.n, x.c, x.l⟩, h1.keep es (by omega), ⟨hr, (h2.inn.outer es (fun k a b => by show some gb = some k; congr 1; omega)).congr ?_⟩, hlh, h3, rfl⟩
    cases ws with
    | nil => simp at hx
    | cons y t => simp at hx; subst hx; rfl
/-- A drawn disk that can be read. -/
def AnyDk (g : Nat) (w : World) (e : Ending) (w' : World) : Prop :=
  ∃ (Ac : Option Addr) (nc cc : Nat) (Aw : Option Addr) (nw cw : Nat) (dc : List (List UInt8)) (dw : List (Int × List UInt8)), e = .returned (.agg #[.slice Ac nc cc, .slice Aw nw cw]) ∧ lenB dc dw ∧ Dk2 w' w.heap.size Ac nc cc Aw nw cw dc dw ∧ Eff g (g + 1) w w'
theorem Dk2.low {w : World} {lo lo' nc cc nw cw : Nat} {Ac Aw : Option Addr} {dc : List (List UInt8)} {dw : List (Int × List UInt8)} (h : Dk2 w lo Ac nc cc Aw nw cw dc dw) (hl : lo' ≤ lo) : Dk2 w lo' Ac nc cc Aw nw cw dc dw := by
  obtain ⟨hi, lo2, hi2, cs, ws, h1, h2, h3, h4, h5⟩ := h
  exact ⟨hi, lo2, hi2, cs, ws, h1.wide hl (Nat.le_refl _) h1.le, h2, by omega, h4, h5⟩
theorem AnyDk.mk {g b lo nc cc nw cw : Nat} {w w1 w2 : World} {Ac Aw : Option Addr} {dc : List (List UInt8)} {dw : List (Int × List UInt8)} (hl : lenB dc dw) (E : Eff g (g + 1) w w1) (o : Dk2 w1 lo Ac nc cc Aw nw cw dc dw) (he : Eff b (b + 1) w1 w2) (h2 : b + 1 ≤ lo) (h3 : w.heap.size ≤ b) : AnyDk g w (.returned (.agg #[.slice Ac nc cc, .slice Aw nw cw])) w2 :=
  ⟨Ac, nc, cc, Aw, nw, cw, dc, dw, rfl, hl, (o.keep he h2).low (by omega), E.step he (by omega)⟩
theorem lenB_set {dc : List (List UInt8)} {dw : List (Int × List UInt8)} (h : lenB dc dw) : lenB (dc.set 0 [1]) dw := by
  obtain ⟨h1, h2, h3, h4⟩ := h
  refine ⟨by simpa using h1, h2, fun l hl => ?_, h4⟩
  rcases List.mem_or_eq_of_mem_set hl with h | rfl
  · exact h3 l h
  · simp
theorem lenB_nil {dc : List (List UInt8)} {dw : List (Int × List UInt8)} (h : lenB dc dw) : lenB [] dw := ⟨by simp, h.2.1, fun l hl => by simp at hl, h.2.2.2⟩
theorem lenB_pos {dc : List (List UInt8)} {dw dw2 : List (Int × List UInt8)} (h : lenB dc dw) (hm : dw2.map (·.2) = dw.map (·.2)) : lenB dc dw2 := by
  have hl := congrArg List.length hm
  simp only [List.length_map] at hl
  refine ⟨h.1, by rw [hl]; exact h.2.1, h.2.2.1, fun x hx => ?_⟩
  have h1 : x.2 ∈ dw2.map (·.2) := List.mem_map_of_mem hx
  rw [hm] at h1
  obtain ⟨y, hy, e⟩ := List.mem_map.1 h1
  rw [← e]; exact h.2.2.2 y hy
set_option maxHeartbeats 4000000 in
set_option maxRecDepth 100000 in
theorem l03AnyDisk_any (B g : Nat) (W : World) (hc : Cur B W g) : Calls Try.prog 65 #[.pointer (some ⟨g, 0, none⟩)] W (AnyDk g W) := by
  have hgl := hc.lt
  have hgB := hc.le
  have E0 : Eff g (g + 1) W W := Eff.refl _ _ _
  go_enter Try.func65, Try.ntmps65
  go_wp2_with fail
  have he1 : Eff 0 0 W (W.alloc (.cells #[.slice none 0 0, .slice none 0 0] 33)) := Eff.alloc _ _
  have hs1 : (W.alloc (.cells #[.slice none 0 0, .slice none 0 0] 33)).heap.size = W.heap.size + 1 := (by simp)
  have res_0 : (W.alloc (.cells #[.slice none 0 0, .slice none 0 0] 33)).cell? ⟨W.heap.size, 0, none⟩ = some (.slice none 0 0) := var_cell _ _ _ _ _ rfl
  have res_1 : (W.alloc (.cells #[.slice none 0 0, .slice none 0 0] 33)).cell? ⟨W.heap.size, 1, none⟩ = some (.slice none 0 0) := var_cell _ _ _ _ _ rfl
  have res_f0 : (W.alloc (.cells #[.slice none 0 0, .slice none 0 0] 33)).frozen? ⟨W.heap.size, 0, none⟩ = false := var_frozen _ _ _ _
  have res_f1 : (W.alloc (.cells #[.slice none 0 0, .slice none 0 0] 33)).frozen? ⟨W.heap.size, 1, none⟩ = false := var_frozen _ _ _ _
  generalize (W.alloc (.cells #[.slice none 0 0, .slice none 0 0] 33)) = w1 at *
  have hz1 : W.heap.size ≤ w1.heap.size := he1.size
  have E1 : Eff g (g + 1) W w1 := E0.step he1 (by omega)
  have S1 := E1.size
  replace hc := hc.keep he1 (by omega) (by omega)
  have res_l : W.heap.size < w1.heap.size := (by omega)
  have hw1 : w1.heap.size = W.heap.size + 1 := hs1
  clear hs1
  refine (l03Disk_any B g w1 hc).mono ?_
  rintro e w2 hpost
  obtain ⟨Ac, nc, cc, Aw, nw, cw, dc, dw, rfl, hok, hc, o, he⟩ := hpost
  have he2 : Eff (g) (g + 1) w1 w2 := he
  have hz2 : w1.heap.size ≤ w2.heap.size := he2.size
  have E2 : Eff g (g + 1) W w2 := E1.step he2 (by omega)
  have S2 := E2.size
  replace res_f0 := (he2.frozen res_0 (by simp only; omega)).trans res_f0
  replace res_f1 := (he2.frozen res_1 (by simp only; omega)).trans res_f1
  replace res_0 := he2.cell res_0 (by simp only; omega)
  replace res_1 := he2.cell res_1 (by simp only; omega)
  replace res_l := Nat.lt_of_lt_of_le res_l hz2
  clear he
  have HOK := Lib.hid hok
  have hlb := Lib.hid (lenB_ok hok.1)
  have hnl := OwnD.len o
  have hnc : 0 < nc := by have := (dkOk_iff.1 hok.1).1.1; omega
  clear hok
  go_upto_region 2 with fail
  have he3 : Eff 0 0 w2 (w2.alloc (.cells #[.slice Ac nc cc, .slice Aw nw cw] 33)) := Eff.alloc _ _
  have hs3 : (w2.alloc (.cells #[.slice Ac nc cc, .slice Aw nw cw] 33)).heap.size = w2.heap.size + 1 := (by simp)
  have d_0 : (w2.alloc (.cells #[.slice Ac nc cc, .slice Aw nw cw] 33)).cell? ⟨w2.heap.size, 0, none⟩ = some (.slice Ac nc cc) := var_cell _ _ _ _ _ rfl
  have d_1 : (w2.alloc (.cells #[.slice Ac nc cc, .slice Aw nw cw] 33)).cell? ⟨w2.heap.size, 1, none⟩ = some (.slice Aw nw cw) := var_cell _ _ _ _ _ rfl
  have d_f0 : (w2.alloc (.cells #[.slice Ac nc cc, .slice Aw nw cw] 33)).frozen? ⟨w2.heap.size, 0, none⟩ = false := var_frozen _ _ _ _
  have d_f1 : (w2.alloc (.cells #[.slice Ac nc cc, .slice Aw nw cw] 33)).frozen? ⟨w2.heap.size, 1, none⟩ = false := var_frozen _ _ _ _
  generalize (w2.alloc (.cells #[.slice Ac nc cc, .slice Aw nw cw] 33)) = w3 at *
  have hz3 : w2.heap.size ≤ w3.heap.size := he3.size
  have E3 : Eff g (g + 1) W w3 := E2.step he3 (by omega)
  have S3 := E3.size
  replace o := o.keep he3 (by omega)
  replace res_f0 := (he3.frozen res_0 (by simp only; omega)).trans res_f0
  replace res_f1 := (he3.frozen res_1 (by simp only; omega)).trans res_f1
  replace res_0 := he3.cell res_0 (by simp only; omega)
  replace res_1 := he3.cell res_1 (by simp only; omega)
  replace res_l := Nat.lt_of_lt_of_le res_l hz3
  replace hc := hc.keep he3 (by omega) (by omega)
  have d_l : w2.heap.size < w3.heap.size := (by omega)
  have hdo : w2.heap.size < w3.heap.size := by omega
  clear hs3 hnl
  go_wp2_with fail
  refine (l01Below_any B g (12) (by omega) w3 hc).mono ?_
  rintro e w4 hpost
  obtain ⟨k, rfl, ⟨k_0, k_1, -⟩, hc, he⟩ := hpost.eff
  clear hpost
  replace k_1 := k_1 (by omega)
  have he4 : Eff (g) (g + 1) w3 w4 := he
  have hz4 : w3.heap.size ≤ w4.heap.size := he4.size
  have E4 : Eff g (g + 1) W w4 := E3.step he4 (by omega)
  have S4 := E4.size
  replace o := o.keep he4 (by omega)
  replace res_f0 := (he4.frozen res_0 (by simp only; omega)).trans res_f0
  replace res_f1 := (he4.frozen res_1 (by simp only; omega)).trans res_f1
  replace d_f0 := (he4.frozen d_0 (by simp only; omega)).trans d_f0
  replace d_f1 := (he4.frozen d_1 (by simp only; omega)).trans d_f1
  replace res_0 := he4.cell res_0 (by simp only; omega)
  replace res_1 := he4.cell res_1 (by simp only; omega)
  replace d_0 := he4.cell d_0 (by simp only; omega)
  replace d_1 := he4.cell d_1 (by simp only; omega)
  replace res_l := Nat.lt_of_lt_of_le res_l hz4
  replace d_l := Nat.lt_of_lt_of_le d_l hz4
  clear he
  by_cases k0 : k = 0
  · skip
    subst k0
    have hol := OwnD.le o
    obtain ⟨gb, v0, rfl, hg1, hg2, hcell, hfz, hD⟩ := OwnD.first o hnc
    have hcellP := (Eff.alloc w4 (.cells #[.int .u8 1] 5)).cell hcell (.inr (Nat.zero_le _))
    have hfzP := ((Eff.alloc w4 (.cells #[.int .u8 1] 5)).frozen hcell (.inr (Nat.zero_le _))).trans hfz
    have d_0P := (Eff.alloc w4 (.cells #[.int .u8 1] 5)).cell d_0 (.inr (Nat.zero_le _))
    have d_1P := (Eff.alloc w4 (.cells #[.int .u8 1] 5)).cell d_1 (.inr (Nat.zero_le _))
    go_upto_region 5 with fail
    skip
    have he5 : Eff gb (gb + 1) w4 ((w4.alloc (.cells #[.int .u8 1] 5)).setCell ⟨gb, 0, none⟩ (.slice (some ⟨w4.heap.size, 0, none⟩) 1 1)) := ((Eff.refl _ _ _).new _).trans (eff_set _ _ _ _)
    have hz5 : w4.heap.size ≤ ((w4.alloc (.cells #[.int .u8 1] 5)).setCell ⟨gb, 0, none⟩ (.slice (some ⟨w4.heap.size, 0, none⟩) 1 1)).heap.size := he5.size
    generalize ((w4.alloc (.cells #[.int .u8 1] 5)).setCell ⟨gb, 0, none⟩ (.slice (some ⟨w4.heap.size, 0, none⟩) 1 1)) = w5 at *
    have E5 : Eff g (g + 1) W w5 := E4.step he5 (by omega)
    have S5 := E5.size
    replace res_f0 := (he5.frozen res_0 (by simp only; omega)).trans res_f0
    replace res_f1 := (he5.frozen res_1 (by simp only; omega)).trans res_f1
    replace d_f0 := (he5.frozen d_0 (by simp only; omega)).trans d_f0
    replace d_f1 := (he5.frozen d_1 (by simp only; omega)).trans d_f1
    replace res_0 := he5.cell res_0 (by simp only; omega)
    replace res_1 := he5.cell res_1 (by simp only; omega)
    replace d_0 := he5.cell d_0 (by simp only; omega)
    replace d_1 := he5.cell d_1 (by simp only; omega)
    replace res_l := Nat.lt_of_lt_of_le res_l hz5
    replace d_l := Nat.lt_of_lt_of_le d_l hz5
    replace hc := hc.keep he5 (by omega) (by omega)
    go_wp2_with fail
    have r0 : ((w5.setCell ⟨W.heap.size, 0, none⟩ (.slice (some ⟨gb, 0, none⟩) nc cc)).setCell ⟨W.heap.size, 1, none⟩ (.slice Aw nw cw)).cell? ⟨W.heap.size, 0, none⟩ = some (.slice (some ⟨gb, 0, none⟩) nc cc) := set_other (set_same res_0 _) _ (.inr (by omega))
    have r1 : ((w5.setCell ⟨W.heap.size, 0, none⟩ (.slice (some ⟨gb, 0, none⟩) nc cc)).setCell ⟨W.heap.size, 1, none⟩ (.slice Aw nw cw)).cell? ⟨W.heap.size, 1, none⟩ = some (.slice Aw nw cw) := set_same (set_other res_1 _ (.inr (by omega))) _
    refine bodyPost_ret (v := .agg #[.slice (some ⟨gb, 0, none⟩) nc cc, .slice Aw nw cw]) (by simp [results, Try.results65, go_sem, r0, r1]) rfl ?_
    exact AnyDk.mk (lenB_set hlb.out) E5 (hD) (eff_set2k _ _ _ _) (by omega) (by omega)
  have n0 : (k == 0) = false := by simp; omega
  by_cases k1 : k = 1
  · skip
    subst k1
    go_upto_region 7 with fail
    have he5 : Eff (w2.heap.size) (w2.heap.size + 1) w4 (w4.setCell ⟨w2.heap.size, 0, none⟩ (.slice none 0 0)) := eff_set _ _ _ _
    replace res_f0 := (he5.frozen res_0 (by simp only; omega)).trans res_f0
    replace res_f1 := (he5.frozen res_1 (by simp only; omega)).trans res_f1
    replace d_f0 := set_frozen (p := ⟨w2.heap.size, 0, none⟩) d_f0 (.slice none 0 0)
    replace d_f1 := set_frozen (p := ⟨w2.heap.size, 0, none⟩) d_f1 (.slice none 0 0)
    replace res_0 := he5.cell res_0 (by simp only; omega)
    replace res_1 := he5.cell res_1 (by simp only; omega)
    replace d_0 := set_same d_0 (.slice none 0 0)
    replace d_1 := set_other (b' := w2.heap.size) (o' := 0) d_1 (.slice none 0 0) (.inr (by omega))
    have hz5 : w4.heap.size ≤ (w4.setCell ⟨w2.heap.size, 0, none⟩ (.slice none 0 0)).heap.size := he5.size
    generalize (w4.setCell ⟨w2.heap.size, 0, none⟩ (.slice none 0 0)) = w5 at *
    have E5 : Eff g (g + 1) W w5 := E4.step he5 (by omega)
    have S5 := E5.size
    replace o := o.keep he5 (by omega)
    replace res_l := Nat.lt_of_lt_of_le res_l hz5
    replace d_l := Nat.lt_of_lt_of_le d_l hz5
    replace hc := hc.keep he5 (by omega) (by omega)
    go_wp2_with fail
    have r0 : ((w5.setCell ⟨W.heap.size, 0, none⟩ (.slice none 0 0)).setCell ⟨W.heap.size, 1, none⟩ (.slice Aw nw cw)).cell? ⟨W.heap.size, 0, none⟩ = some (.slice none 0 0) := set_other (set_same res_0 _) _ (.inr (by omega))
    have r1 : ((w5.setCell ⟨W.heap.size, 0, none⟩ (.slice none 0 0)).setCell ⟨W.heap.size, 1, none⟩ (.slice Aw nw cw)).cell? ⟨W.heap.size, 1, none⟩ = some (.slice Aw nw cw) := set_same (set_other res_1 _ (.inr (by omega))) _
    refine bodyPost_ret (v := .agg #[.slice none 0 0, .slice Aw nw cw]) (by simp [results, Try.results65, go_sem, r0, r1]) rfl ?_
    exact AnyDk.mk (lenB_nil hlb.out) E5 (o.nocells) (eff_set2k _ _ _ _) (by omega) (by omega)
  have n1 : (k == 1) = false := by simp; omega
  by_cases k2 : k = 2
  · skip
    subst k2
    by_cases hw0 : 0 < nw
    · skip
      have hwi : (0 : Int) < (nw : Int) := by omega
      obtain ⟨gb, v0, hAw, hg1, hg2, hcell, hfz, -⟩ := OwnD.firstW o hw0 0
      subst hAw
      go_wp2_with fail
      have he5 : Eff 0 0 w4 w4.drew := (Eff.refl _ _ _).drew
      have hz5 : w4.heap.size ≤ w4.drew.heap.size := he5.size
      have E5 : Eff g (g + 1) W w4.drew := E4.step he5 (by omega)
      have S5 := E5.size
      replace o := o.keep he5 (by omega)
      replace res_f0 := (he5.frozen res_0 (by simp only; omega)).trans res_f0
      replace res_f1 := (he5.frozen res_1 (by simp only; omega)).trans res_f1
      replace d_f0 := (he5.frozen d_0 (by simp only; omega)).trans d_f0
      replace d_f1 := (he5.frozen d_1 (by simp only; omega)).trans d_f1
      replace hfz := (he5.frozen hcell (by simp only; omega)).trans hfz
      replace res_0 := he5.cell res_0 (by simp only; omega)
      replace res_1 := he5.cell res_1 (by simp only; omega)
      replace d_0 := he5.cell d_0 (by simp only; omega)
      replace d_1 := he5.cell d_1 (by simp only; omega)
      replace hcell := he5.cell hcell (by simp only; omega)
      replace res_l := Nat.lt_of_lt_of_le res_l hz5
      replace d_l := Nat.lt_of_lt_of_le d_l hz5
      replace hc := hc.keep he5 (by omega) (by omega)
      go_region_held3 (fun w' => w'.cell? ⟨w2.heap.size, 1, none⟩ = some (.slice (some ⟨gb, 0, none⟩) nw cw)) ((go_split_ands; (repeat' apply And.intro) <;> (first | assumption | (exact set_other (by assumption) _ (.inl (by omega)))))) (first | (go_at_call 81; refine (l01Raw_any B g w4.drew hc).mono ?_; rintro e w6 hpost; obtain ⟨z, rfl, z_r, hc, he⟩ := hpost.eff; clear hpost; have he6 : Eff (g) (g + 1) w4.drew w6 := he; have hz6 : w4.drew.heap.size ≤ w6.heap.size := he6.size; have E6 : Eff g (g + 1) W w6 := E5.step he6 (by omega); have S6 := E6.size; replace o := o.keep he6 (by omega); replace res_f0 := (he6.frozen res_0 (by simp only; omega)).trans res_f0; replace res_f1 := (he6.frozen res_1 (by simp only; omega)).trans res_f1; replace d_f0 := (he6.frozen d_0 (by simp only; omega)).trans d_f0; replace d_f1 := (he6.frozen d_1 (by simp only; omega)).trans d_f1; replace hfz := (he6.frozen hcell (by simp only; omega)).trans hfz; replace res_0 := he6.cell res_0 (by simp only; omega); replace res_1 := he6.cell res_1 (by simp only; omega); replace d_0 := he6.cell d_0 (by simp only; omega); replace d_1 := he6.cell d_1 (by simp only; omega); replace hcell := he6.cell hcell (by simp only; omega); replace res_l := Nat.lt_of_lt_of_le res_l hz6; replace d_l := Nat.lt_of_lt_of_le d_l hz6; clear he))
      obtain ⟨gb2, v1, hAw, -, -, -, -, dw2, hm2, hD⟩ := OwnD.firstW o hw0 z
      obtain rfl : gb = gb2 := by injection hAw with h; injection h
      go_upto_region 9 with fail
      have he7 : Eff gb (gb + 1) w6 (w6.setCell ⟨gb, 0, none⟩ (.int .i64 z)) := eff_set _ _ _ _
      have hz7 : w6.heap.size ≤ (w6.setCell ⟨gb, 0, none⟩ (.int .i64 z)).heap.size := he7.size
      generalize (w6.setCell ⟨gb, 0, none⟩ (.int .i64 z)) = w7 at *
      have E7 : Eff g (g + 1) W w7 := E6.step he7 (by omega)
      have S7 := E7.size
      replace res_f0 := (he7.frozen res_0 (by simp only; omega)).trans res_f0
      replace res_f1 := (he7.frozen res_1 (by simp only; omega)).trans res_f1
      replace d_f0 := (he7.frozen d_0 (by simp only; omega)).trans d_f0
      replace d_f1 := (he7.frozen d_1 (by simp only; omega)).trans d_f1
      replace res_0 := he7.cell res_0 (by simp only; omega)
      replace res_1 := he7.cell res_1 (by simp only; omega)
      replace d_0 := he7.cell d_0 (by simp only; omega)
      replace d_1 := he7.cell d_1 (by simp only; omega)
      replace res_l := Nat.lt_of_lt_of_le res_l hz7
      replace d_l := Nat.lt_of_lt_of_le d_l hz7
      replace hc := hc.keep he7 (by omega) (by omega)
      go_wp2_with fail
      have r0 : ((w7.setCell ⟨W.heap.size, 0, none⟩ (.slice Ac nc cc)).setCell ⟨W.heap.size, 1, none⟩ (.slice (some ⟨gb, 0, none⟩) nw cw)).cell? ⟨W.heap.size, 0, none⟩ = some (.slice Ac nc cc) := set_other (set_same res_0 _) _ (.inr (by omega))
      have r1 : ((w7.setCell ⟨W.heap.size, 0, none⟩ (.slice Ac nc cc)).setCell ⟨W.heap.size, 1, none⟩ (.slice (some ⟨gb, 0, none⟩) nw cw)).cell? ⟨W.heap.size, 1, none⟩ = some (.slice (some ⟨gb, 0, none⟩) nw cw) := set_same (set_other res_1 _ (.inr (by omega))) _
      refine bodyPost_ret (v := .agg #[.slice Ac nc cc, .slice (some ⟨gb, 0, none⟩) nw cw]) (by simp [results, Try.results65, go_sem, r0, r1]) rfl ?_
      exact AnyDk.mk (lenB_pos hlb.out hm2) E7 (hD) (eff_set2k _ _ _ _) (by omega) (by omega)
    · skip
      have hwi : ¬ (0 : Int) < (nw : Int) := by omega
      go_wp2_with fail
      have r0 : ((w4.setCell ⟨W.heap.size, 0, none⟩ (.slice Ac nc cc)).setCell ⟨W.heap.size, 1, none⟩ (.slice Aw nw cw)).cell? ⟨W.heap.size, 0, none⟩ = some (.slice Ac nc cc) := set_other (set_same res_0 _) _ (.inr (by omega))
      have r1 : ((w4.setCell ⟨W.heap.size, 0, none⟩ (.slice Ac nc cc)).setCell ⟨W.heap.size, 1, none⟩ (.slice Aw nw cw)).cell? ⟨W.heap.size, 1, none⟩ = some (.slice Aw nw cw) := set_same (set_other res_1 _ (.inr (by omega))) _
      refine bodyPost_ret (v := .agg #[.slice Ac nc cc, .slice Aw nw cw]) (by simp [results, Try.results65, go_sem, r0, r1]) rfl ?_
      exact AnyDk.mk hlb.out E4 (o.two) (eff_set2k _ _ _ _) (by omega) (by omega)
  have n2 : (k == 2) = false := by simp; omega
  go_wp2_with fail
  have r0 : ((w4.setCell ⟨W.heap.size, 0, none⟩ (.slice Ac nc cc)).setCell ⟨W.heap.size, 1, none⟩ (.slice Aw nw cw)).cell? ⟨W.heap.size, 0, none⟩ = some (.slice Ac nc cc) := set_other (set_same res_0 _) _ (.inr (by omega))
  have r1 : ((w4.setCell ⟨W.heap.size, 0, none⟩ (.slice Ac nc cc)).setCell ⟨W.heap.size, 1, none⟩ (.slice Aw nw cw)).cell? ⟨W.heap.size, 1, none⟩ = some (.slice Aw nw cw) := set_same (set_other res_1 _ (.inr (by omega))) _
  refine bodyPost_ret (v := .agg #[.slice Ac nc cc, .slice Aw nw cw]) (by simp [results, Try.results65, go_sem, r0, r1]) rfl ?_
  exact AnyDk.mk hlb.out E4 (o.two) (eff_set2k _ _ _ _) (by omega) (by omega)
/-- A drawn disk. -/
def DDk (w : World) (e : Ending) (w' : World) : Prop :=
  ∃ (Ac : Option Addr) (nc cc : Nat) (Aw : Option Addr) (nw cw : Nat) (dc : List (List UInt8)) (dw : List (Int × List UInt8)), e = .returned (.agg #[.slice Ac nc cc, .slice Aw nw cw]) ∧ lenB dc dw ∧ RdDk w' w'.heap.size Ac nc Aw nw dc dw ∧ Below w.heap.size w w'
set_option maxHeartbeats 1000000 in
set_option maxRecDepth 100000 in
theorem DrawDiskSync_any (W : World) (A : Option Addr) (n c : Nat) (l : List UInt8) (hr : Rd W W.heap.size 1 A n (Lib.byteCells l)) (hn : n ≤ 1048576) : Calls Try.prog 24 #[.slice A n c] W (DDk W) := by
  go_enter Try.func24, Try.ntmps24
  go_wp2_with fail
  have he1 : Eff 0 0 W (W.alloc (.cells #[.slice none 0 0, .slice none 0 0] 33)) := Eff.alloc _ _
  have hs1 : (W.alloc (.cells #[.slice none 0 0, .slice none 0 0] 33)).heap.size = W.heap.size + 1 := (by simp)
  have res_0 : (W.alloc (.cells #[.slice none 0 0, .slice none 0 0] 33)).cell? ⟨W.heap.size, 0, none⟩ = some (.slice none 0 0) := var_cell _ _ _ _ _ rfl
  have res_1 : (W.alloc (.cells #[.slice none 0 0, .slice none 0 0] 33)).cell? ⟨W.heap.size, 1, none⟩ = some (.slice none 0 0) := var_cell _ _ _ _ _ rfl
  have res_f0 : (W.alloc (.cells #[.slice none 0 0, .slice none 0 0] 33)).frozen? ⟨W.heap.size, 0, none⟩ = false := var_frozen _ _ _ _
  have res_f1 : (W.alloc (.cells #[.slice none 0 0, .slice none 0 0] 33)).frozen? ⟨W.heap.size, 1, none⟩ = false := var_frozen _ _ _ _
  generalize (W.alloc (.cells #[.slice none 0 0, .slice none 0 0] 33)) = w1 at *
  have hz1 : W.heap.size ≤ w1.heap.size := he1.size
  have b1 : Below W.heap.size W w1 := he1.below (Nat.le_refl _) (by omega)
  replace hr := (hr.below (he1.below (B := W.heap.size) (by omega) (by omega)) (Nat.le_refl _))
  have res_l : W.heap.size < w1.heap.size := (by omega)
  have hw1 : w1.heap.size = W.heap.size + 1 := hs1
  clear hs1
  go_wp2_with fail
  refine (l01New_any w1 A n c l (hr.more (by omega)) hn).mono ?_
  rintro e w2 ⟨g, hgE, rfl, hc, hb⟩
  have hg1 : w1.heap.size ≤ g := by omega
  have hg2 := hc.lt
  clear hgE
  have he2 : Eff 0 0 w1 w2 := Eff.of hb
  have hz2 : w1.heap.size ≤ w2.heap.size := he2.size
  have b2 : Below W.heap.size W w2 := b1.trans (he2.below b1.size (by omega))
  replace hr := (hr.below (he2.below (B := W.heap.size) (by omega) (by omega)) (Nat.le_refl _))
  replace res_f0 := (he2.frozen res_0 (by simp only; omega)).trans res_f0
  replace res_f1 := (he2.frozen res_1 (by simp only; omega)).trans res_f1
  replace res_0 := he2.cell res_0 (by simp only; omega)
  replace res_1 := he2.cell res_1 (by simp only; omega)
  replace res_l := Nat.lt_of_lt_of_le res_l hz2
  clear hb
  go_wp2_with fail
  refine (l03AnyDisk_any w1.heap.size g w2 hc).mono ?_
  rintro e w3 hpost
  obtain ⟨Ac, nc, cc, Aw, nw, cw, dc, dw, rfl, hlb, o, he⟩ := hpost
  have HLB := Lib.hid hlb
  clear hlb
  have he3 : Eff (g) (g + 1) w2 w3 := he
  have hz3 : w2.heap.size ≤ w3.heap.size := he3.size
  have b3 : Below W.heap.size W w3 := b2.trans (he3.below b2.size (by omega))
  replace hr := (hr.below (he3.below (B := W.heap.size) (by omega) (by omega)) (Nat.le_refl _))
  replace res_f0 := (he3.frozen res_0 (by simp only; omega)).trans res_f0
  replace res_f1 := (he3.frozen res_1 (by simp only; omega)).trans res_f1
  replace res_0 := he3.cell res_0 (by simp only; omega)
  replace res_1 := he3.cell res_1 (by simp only; omega)
  replace res_l := Nat.lt_of_lt_of_le res_l hz3
  clear he
  replace o := o.low (show W.heap.size + 1 ≤ _ by omega)
  go_upto_region 3 with fail
  have he4 : Eff 0 0 w3 (w3.alloc (.cells #[.slice Ac nc cc, .slice Aw nw cw] 33)) := Eff.alloc _ _
  have hs4 : (w3.alloc (.cells #[.slice Ac nc cc, .slice Aw nw cw] 33)).heap.size = w3.heap.size + 1 := (by simp)
  have d_0 : (w3.alloc (.cells #[.slice Ac nc cc, .slice Aw nw cw] 33)).cell? ⟨w3.heap.size, 0, none⟩ = some (.slice Ac nc cc) := var_cell _ _ _ _ _ rfl
  have d_1 : (w3.alloc (.cells #[.slice Ac nc cc, .slice Aw nw cw] 33)).cell? ⟨w3.heap.size, 1, none⟩ = some (.slice Aw nw cw) := var_cell _ _ _ _ _ rfl
  generalize (w3.alloc (.cells #[.slice Ac nc cc, .slice Aw nw cw] 33)) = w4 at *
  have hz4 : w3.heap.size ≤ w4.heap.size := he4.size
  have b4 : Below W.heap.size W w4 := b3.trans (he4.below b3.size (by omega))
  replace hr := (hr.below (he4.below (B := W.heap.size) (by omega) (by omega)) (Nat.le_refl _))
  replace res_f0 := (he4.frozen res_0 (by simp only; omega)).trans res_f0
  replace res_f1 := (he4.frozen res_1 (by simp only; omega)).trans res_f1
  replace res_0 := he4.cell res_0 (by simp only; omega)
  replace res_1 := he4.cell res_1 (by simp only; omega)
  replace res_l := Nat.lt_of_lt_of_le res_l hz4
  have d_l : w3.heap.size < w4.heap.size := (by omega)
  replace o := o.keep he4 (Nat.zero_le _)
  go_wp2_with fail
  have r0 : ((w4.setCell ⟨W.heap.size, 0, none⟩ (.slice Ac nc cc)).setCell ⟨W.heap.size, 1, none⟩ (.slice Aw nw cw)).cell? ⟨W.heap.size, 0, none⟩ = some (.slice Ac nc cc) := set_other (set_same res_0 _) _ (.inr (by omega))
  have r1 : ((w4.setCell ⟨W.heap.size, 0, none⟩ (.slice Ac nc cc)).setCell ⟨W.heap.size, 1, none⟩ (.slice Aw nw cw)).cell? ⟨W.heap.size, 1, none⟩ = some (.slice Aw nw cw) := set_same (set_other res_1 _ (.inr (by omega))) _
  refine bodyPost_ret (v := .agg #[.slice Ac nc cc, .slice Aw nw cw]) (by simp [results, Try.results24, go_sem, r0, r1]) rfl ?_
  exact ⟨Ac, nc, cc, Aw, nw, cw, dc, dw, rfl, HLB.out, (o.keep (eff_set2k _ _ _ _) (Nat.le_refl _)).rd, b4.trans ((eff_set2k _ _ _ _).below (by omega) (by omega))⟩
end Go.Proofs.Ytblenfhacaecmaa
