/- Logs: a disk and two integers: to, sz, eq, mark, held; LogSync (program, reference). -/
import Derived.Test.YtblenfhacaecmaaInt
import Derived.Deep.RegionHeld3
namespace Go.Proofs.Ytblenfhacaecmaa
open Go.RowKit
/-- A log of the call's own: its disk and its two integers. -/
def MadeLg (dc : List (List UInt8)) (dw : List (Int × List UInt8)) (x y : Int) (w : World) (e : Ending) (w' : World) : Prop :=
  ∃ Ac nc cc Aw nw cw, nc = dc.length ∧ nw = dw.length ∧ e = .returned (.agg #[.slice Ac nc cc, .slice Aw nw cw, .int .i64 x, .int .i64 y]) ∧ OwnD w' w.heap.size w'.heap.size Ac nc cc Aw nw cw dc dw ∧ Below w.heap.size w w'
def chain4 (w : World) (b : Nat) (v0 v1 v2 v3 : Value) : World := (((w.setCell ⟨b, 0, none⟩ v0).setCell ⟨b, 1, none⟩ v1).setCell ⟨b, 2, none⟩ v2).setCell ⟨b, 3, none⟩ v3
theorem eff4 (w : World) (b : Nat) (v0 v1 v2 v3 : Value) : Eff b (b + 1) w (chain4 w b v0 v1 v2 v3) := (((eff_set w b 0 v0).trans (eff_set _ b 1 v1)).trans (eff_set _ b 2 v2)).trans (eff_set _ b 3 v3)
theorem size4 (w : World) (b : Nat) (v0 v1 v2 v3 : Value) : (chain4 w b v0 v1 v2 v3).heap.size = w.heap.size := by simp [chain4]
theorem madeLg_1 {W w : World} {b lo : Nat} {x y : Int} {dc : List (List UInt8)} {dw : List (Int × List UInt8)} {Ac Aw : Option Addr} {nc cc nw cw : Nat} {v0 v1 v2 v3 : Value} (q1 : nc = dc.length) (q2 : nw = dw.length) (t : OwnD w lo w.heap.size Ac nc cc Aw nw cw dc dw) (hb : Below W.heap.size W w) (h1 : W.heap.size ≤ b) (h2 : b < lo) :
    MadeLg dc dw x y W (.returned (.agg #[.slice Ac nc cc, .slice Aw nw cw, .int .i64 x, .int .i64 y])) (chain4 w b v0 v1 v2 v3) := by
  have e := eff4 w b v0 v1 v2 v3
  have s := size4 w b v0 v1 v2 v3
  exact ⟨Ac, nc, cc, Aw, nw, cw, q1, q2, rfl, (t.keep e (.inr (.inl (by omega)))).wide (by omega) (by omega) (Nat.le_refl _), hb.trans (e.below hb.size (.inl h1))⟩
theorem madeLg_2 {W w : World} {b b' lo : Nat} {x y : Int} {dc : List (List UInt8)} {dw : List (Int × List UInt8)} {Ac Aw : Option Addr} {nc cc nw cw : Nat} {u0 u1 u2 u3 v0 v1 v2 v3 : Value} (q1 : nc = dc.length) (q2 : nw = dw.length) (t : OwnD w lo w.heap.size Ac nc cc Aw nw cw dc dw) (hb : Below W.heap.size W w) (h1 : W.heap.size ≤ b) (h2 : b < lo) (h1' : W.heap.size ≤ b') (h2' : b' < lo) :
    MadeLg dc dw x y W (.returned (.agg #[.slice Ac nc cc, .slice Aw nw cw, .int .i64 x, .int .i64 y])) (chain4 (chain4 w b' u0 u1 u2 u3) b v0 v1 v2 v3) := by
  have e := eff4 w b' u0 u1 u2 u3
  have s := size4 w b' u0 u1 u2 u3
  exact madeLg_1 q1 q2 ((t.keep e (.inr (.inl (by omega)))).wide (Nat.le_refl lo) (by omega) (Nat.le_refl _)) (hb.trans (e.below hb.size (.inl h1'))) h1 h2
set_option maxHeartbeats 1000000 in
set_option maxRecDepth 100000 in
theorem toLog_d (Ac : Option Addr) (nc cc : Nat) (Aw : Option Addr) (nw cw : Nat) (dc : List (List UInt8)) (dw : List (Int × List UInt8)) (x y : Int) (W : World) (hd : RdDk W W.heap.size Ac nc Aw nw dc dw) (LB : lenB dc dw) :
    Calls Try.prog 38 #[.agg #[.slice Ac nc cc, .slice Aw nw cw, .int .i64 x, .int .i64 y]] W (MadeLg dc dw x y W) := by
  go_enter Try.func38, Try.ntmps38
  go_wp2_with fail
  have he1 : Eff 0 0 W (W.alloc (.cells #[.slice Ac nc cc, .slice Aw nw cw, .int .i64 x, .int .i64 y] 57)) := Eff.alloc _ _
  have hs1 : (W.alloc (.cells #[.slice Ac nc cc, .slice Aw nw cw, .int .i64 x, .int .i64 y] 57)).heap.size = W.heap.size + 1 := (by simp)
  have aL_0 : (W.alloc (.cells #[.slice Ac nc cc, .slice Aw nw cw, .int .i64 x, .int .i64 y] 57)).cell? ⟨W.heap.size, 0, none⟩ = some (.slice Ac nc cc) := var_cell _ _ _ _ _ rfl
  have aL_1 : (W.alloc (.cells #[.slice Ac nc cc, .slice Aw nw cw, .int .i64 x, .int .i64 y] 57)).cell? ⟨W.heap.size, 1, none⟩ = some (.slice Aw nw cw) := var_cell _ _ _ _ _ rfl
  have aL_2 : (W.alloc (.cells #[.slice Ac nc cc, .slice Aw nw cw, .int .i64 x, .int .i64 y] 57)).cell? ⟨W.heap.size, 2, none⟩ = some (.int .i64 x) := var_cell _ _ _ _ _ rfl
  have aL_3 : (W.alloc (.cells #[.slice Ac nc cc, .slice Aw nw cw, .int .i64 x, .int .i64 y] 57)).cell? ⟨W.heap.size, 3, none⟩ = some (.int .i64 y) := var_cell _ _ _ _ _ rfl
  generalize (W.alloc (.cells #[.slice Ac nc cc, .slice Aw nw cw, .int .i64 x, .int .i64 y] 57)) = w1 at *
  have hz1 : W.heap.size ≤ w1.heap.size := he1.size
  have b1 : Below W.heap.size W w1 := he1.below (Nat.le_refl _) (by omega)
  replace hd := (hd.below (he1.below (B := W.heap.size) (by omega) (by omega)) (Nat.le_refl _))
  have aL_l : W.heap.size < w1.heap.size := (by omega)
  have he2 : Eff 0 0 w1 (w1.alloc (.cells #[.slice none 0 0, .slice none 0 0, .int .i64 0, .int .i64 0] 60)) := Eff.alloc _ _
  have hs2 : (w1.alloc (.cells #[.slice none 0 0, .slice none 0 0, .int .i64 0, .int .i64 0] 60)).heap.size = w1.heap.size + 1 := (by simp)
  have res_0 : (w1.alloc (.cells #[.slice none 0 0, .slice none 0 0, .int .i64 0, .int .i64 0] 60)).cell? ⟨w1.heap.size, 0, none⟩ = some (.slice none 0 0) := var_cell _ _ _ _ _ rfl
  have res_1 : (w1.alloc (.cells #[.slice none 0 0, .slice none 0 0, .int .i64 0, .int .i64 0] 60)).cell? ⟨w1.heap.size, 1, none⟩ = some (.slice none 0 0) := var_cell _ _ _ _ _ rfl
  have res_2 : (w1.alloc (.cells #[.slice none 0 0, .slice none 0 0, .int .i64 0, .int .i64 0] 60)).cell? ⟨w1.heap.size, 2, none⟩ = some (.int .i64 0) := var_cell _ _ _ _ _ rfl
  have res_3 : (w1.alloc (.cells #[.slice none 0 0, .slice none 0 0, .int .i64 0, .int .i64 0] 60)).cell? ⟨w1.heap.size, 3, none⟩ = some (.int .i64 0) := var_cell _ _ _ _ _ rfl
  have res_f0 : (w1.alloc (.cells #[.slice none 0 0, .slice none 0 0, .int .i64 0, .int .i64 0] 60)).frozen? ⟨w1.heap.size, 0, none⟩ = false := var_frozen _ _ _ _
  have res_f1 : (w1.alloc (.cells #[.slice none 0 0, .slice none 0 0, .int .i64 0, .int .i64 0] 60)).frozen? ⟨w1.heap.size, 1, none⟩ = false := var_frozen _ _ _ _
  have res_f2 : (w1.alloc (.cells #[.slice none 0 0, .slice none 0 0, .int .i64 0, .int .i64 0] 60)).frozen? ⟨w1.heap.size, 2, none⟩ = false := var_frozen _ _ _ _
  have res_f3 : (w1.alloc (.cells #[.slice none 0 0, .slice none 0 0, .int .i64 0, .int .i64 0] 60)).frozen? ⟨w1.heap.size, 3, none⟩ = false := var_frozen _ _ _ _
  generalize (w1.alloc (.cells #[.slice none 0 0, .slice none 0 0, .int .i64 0, .int .i64 0] 60)) = w2 at *
  have hz2 : w1.heap.size ≤ w2.heap.size := he2.size
  have b2 : Below W.heap.size W w2 := b1.trans (he2.below b1.size (by omega))
  replace hd := (hd.below (he2.below (B := W.heap.size) (by omega) (by omega)) (Nat.le_refl _))
  replace aL_0 := he2.cell aL_0 (by simp only; omega)
  replace aL_1 := he2.cell aL_1 (by simp only; omega)
  replace aL_2 := he2.cell aL_2 (by simp only; omega)
  replace aL_3 := he2.cell aL_3 (by simp only; omega)
  replace aL_l := Nat.lt_of_lt_of_le aL_l hz2
  rw [hs1] at res_0 res_f0
  rw [hs1] at res_1 res_f1
  rw [hs1] at res_2 res_f2
  rw [hs1] at res_3 res_f3
  have res_l : W.heap.size + 1 < w2.heap.size := (by omega)
  have he3 : Eff 0 0 w2 (w2.alloc (.cells #[.slice none 0 0, .slice none 0 0, .int .i64 0, .int .i64 0] 60)) := Eff.alloc _ _
  have hs3 : (w2.alloc (.cells #[.slice none 0 0, .slice none 0 0, .int .i64 0, .int .i64 0] 60)).heap.size = w2.heap.size + 1 := (by simp)
  have out_0 : (w2.alloc (.cells #[.slice none 0 0, .slice none 0 0, .int .i64 0, .int .i64 0] 60)).cell? ⟨w2.heap.size, 0, none⟩ = some (.slice none 0 0) := var_cell _ _ _ _ _ rfl
  have out_1 : (w2.alloc (.cells #[.slice none 0 0, .slice none 0 0, .int .i64 0, .int .i64 0] 60)).cell? ⟨w2.heap.size, 1, none⟩ = some (.slice none 0 0) := var_cell _ _ _ _ _ rfl
  have out_2 : (w2.alloc (.cells #[.slice none 0 0, .slice none 0 0, .int .i64 0, .int .i64 0] 60)).cell? ⟨w2.heap.size, 2, none⟩ = some (.int .i64 0) := var_cell _ _ _ _ _ rfl
  have out_3 : (w2.alloc (.cells #[.slice none 0 0, .slice none 0 0, .int .i64 0, .int .i64 0] 60)).cell? ⟨w2.heap.size, 3, none⟩ = some (.int .i64 0) := var_cell _ _ _ _ _ rfl
  have out_f0 : (w2.alloc (.cells #[.slice none 0 0, .slice none 0 0, .int .i64 0, .int .i64 0] 60)).frozen? ⟨w2.heap.size, 0, none⟩ = false := var_frozen _ _ _ _
  have out_f1 : (w2.alloc (.cells #[.slice none 0 0, .slice none 0 0, .int .i64 0, .int .i64 0] 60)).frozen? ⟨w2.heap.size, 1, none⟩ = false := var_frozen _ _ _ _
  have out_f2 : (w2.alloc (.cells #[.slice none 0 0, .slice none 0 0, .int .i64 0, .int .i64 0] 60)).frozen? ⟨w2.heap.size, 2, none⟩ = false := var_frozen _ _ _ _
  have out_f3 : (w2.alloc (.cells #[.slice none 0 0, .slice none 0 0, .int .i64 0, .int .i64 0] 60)).frozen? ⟨w2.heap.size, 3, none⟩ = false := var_frozen _ _ _ _
  generalize (w2.alloc (.cells #[.slice none 0 0, .slice none 0 0, .int .i64 0, .int .i64 0] 60)) = w3 at *
  have hz3 : w2.heap.size ≤ w3.heap.size := he3.size
  have b3 : Below W.heap.size W w3 := b2.trans (he3.below b2.size (by omega))
  replace hd := (hd.below (he3.below (B := W.heap.size) (by omega) (by omega)) (Nat.le_refl _))
  replace res_f0 := (he3.frozen res_0 (by simp only; omega)).trans res_f0
  replace res_f1 := (he3.frozen res_1 (by simp only; omega)).trans res_f1
  replace res_f2 := (he3.frozen res_2 (by simp only; omega)).trans res_f2
  replace res_f3 := (he3.frozen res_3 (by simp only; omega)).trans res_f3
  replace aL_0 := he3.cell aL_0 (by simp only; omega)
  replace aL_1 := he3.cell aL_1 (by simp only; omega)
  replace aL_2 := he3.cell aL_2 (by simp only; omega)
  replace aL_3 := he3.cell aL_3 (by simp only; omega)
  replace res_0 := he3.cell res_0 (by simp only; omega)
  replace res_1 := he3.cell res_1 (by simp only; omega)
  replace res_2 := he3.cell res_2 (by simp only; omega)
  replace res_3 := he3.cell res_3 (by simp only; omega)
  replace aL_l := Nat.lt_of_lt_of_le aL_l hz3
  replace res_l := Nat.lt_of_lt_of_le res_l hz3
  rw [hs2, hs1] at out_0 out_f0
  rw [hs2, hs1] at out_1 out_f1
  rw [hs2, hs1] at out_2 out_f2
  rw [hs2, hs1] at out_3 out_f3
  have out_l : W.heap.size + 1 + 1 < w3.heap.size := (by omega)
  refine (toDisk_d Ac nc cc Aw nw cw dc dw w3 (hd.more (by omega)) LB).mono ?_
  rintro e w4 ⟨Act, nct, cct, Awt, nwt, cwt, qct, qwt, rfl, t, hb⟩
  have he4 : Eff 0 0 w3 w4 := Eff.of hb
  have hz4 : w3.heap.size ≤ w4.heap.size := he4.size
  have b4 : Below W.heap.size W w4 := b3.trans (he4.below b3.size (by omega))
  replace hd := (hd.below (he4.below (B := W.heap.size) (by omega) (by omega)) (Nat.le_refl _))
  replace res_f0 := (he4.frozen res_0 (by simp only; omega)).trans res_f0
  replace res_f1 := (he4.frozen res_1 (by simp only; omega)).trans res_f1
  replace res_f2 := (he4.frozen res_2 (by simp only; omega)).trans res_f2
  replace res_f3 := (he4.frozen res_3 (by simp only; omega)).trans res_f3
  replace out_f0 := (he4.frozen out_0 (by simp only; omega)).trans out_f0
  replace out_f1 := (he4.frozen out_1 (by simp only; omega)).trans out_f1
  replace out_f2 := (he4.frozen out_2 (by simp only; omega)).trans out_f2
  replace out_f3 := (he4.frozen out_3 (by simp only; omega)).trans out_f3
  replace aL_0 := he4.cell aL_0 (by simp only; omega)
  replace aL_1 := he4.cell aL_1 (by simp only; omega)
  replace aL_2 := he4.cell aL_2 (by simp only; omega)
  replace aL_3 := he4.cell aL_3 (by simp only; omega)
  replace res_0 := he4.cell res_0 (by simp only; omega)
  replace res_1 := he4.cell res_1 (by simp only; omega)
  replace res_2 := he4.cell res_2 (by simp only; omega)
  replace res_3 := he4.cell res_3 (by simp only; omega)
  replace out_0 := he4.cell out_0 (by simp only; omega)
  replace out_1 := he4.cell out_1 (by simp only; omega)
  replace out_2 := he4.cell out_2 (by simp only; omega)
  replace out_3 := he4.cell out_3 (by simp only; omega)
  replace aL_l := Nat.lt_of_lt_of_le aL_l hz4
  replace res_l := Nat.lt_of_lt_of_le res_l hz4
  replace out_l := Nat.lt_of_lt_of_le out_l hz4
  clear hb
  have QCt := Lib.hid qct
  have QWt := Lib.hid qwt
  clear qct qwt
  go_wp2_with fail
  refine bodyPost_ret (v := .agg #[.slice Act nct cct, .slice Awt nwt cwt, .int .i64 x, .int .i64 y]) (by simp [results, Try.results38, go_sem, *]) rfl ?_
  exact madeLg_2 QCt.out QWt.out t b4 (b := W.heap.size + 1) (b' := W.heap.size + 1 + 1) (by omega) (by omega) (by omega) (by omega)
set_option maxHeartbeats 1000000 in
set_option maxRecDepth 100000 in
theorem szLog_d (Ac : Option Addr) (nc cc : Nat) (Aw : Option Addr) (nw cw : Nat) (dc : List (List UInt8)) (dw : List (Int × List UInt8)) (x y : Int) (W : World) (hd : RdDk W W.heap.size Ac nc Aw nw dc dw) (hc : nc ≤ 9223372036854775807) (hw : nw ≤ 9223372036854775807) :
    Calls Try.prog 36 #[.agg #[.slice Ac nc cc, .slice Aw nw cw, .int .i64 x, .int .i64 y], .int .i64 1048576] W fun e w' => e = .returned (.int .i64 (if (1048576 : Int) - (totD dc dw : Int) < 0 then -1 else (1048576 : Int) - (totD dc dw : Int))) ∧ Below W.heap.size W w' := by
  by_cases h : (1048576 : Int) - (totD dc dw : Int) < 0
  · rw [if_pos h]
    go_enter Try.func36, Try.ntmps36
    go_wp2_with fail
    have he1 : Eff 0 0 W (W.alloc (.cells #[.slice Ac nc cc, .slice Aw nw cw, .int .i64 x, .int .i64 y] 57)) := Eff.alloc _ _
    have hs1 : (W.alloc (.cells #[.slice Ac nc cc, .slice Aw nw cw, .int .i64 x, .int .i64 y] 57)).heap.size = W.heap.size + 1 := (by simp)
    have aL_0 : (W.alloc (.cells #[.slice Ac nc cc, .slice Aw nw cw, .int .i64 x, .int .i64 y] 57)).cell? ⟨W.heap.size, 0, none⟩ = some (.slice Ac nc cc) := var_cell _ _ _ _ _ rfl
    have aL_1 : (W.alloc (.cells #[.slice Ac nc cc, .slice Aw nw cw, .int .i64 x, .int .i64 y] 57)).cell? ⟨W.heap.size, 1, none⟩ = some (.slice Aw nw cw) := var_cell _ _ _ _ _ rfl
    have aL_2 : (W.alloc (.cells #[.slice Ac nc cc, .slice Aw nw cw, .int .i64 x, .int .i64 y] 57)).cell? ⟨W.heap.size, 2, none⟩ = some (.int .i64 x) := var_cell _ _ _ _ _ rfl
    have aL_3 : (W.alloc (.cells #[.slice Ac nc cc, .slice Aw nw cw, .int .i64 x, .int .i64 y] 57)).cell? ⟨W.heap.size, 3, none⟩ = some (.int .i64 y) := var_cell _ _ _ _ _ rfl
    generalize (W.alloc (.cells #[.slice Ac nc cc, .slice Aw nw cw, .int .i64 x, .int .i64 y] 57)) = w1 at *
    have hz1 : W.heap.size ≤ w1.heap.size := he1.size
    have b1 : Below W.heap.size W w1 := he1.below (Nat.le_refl _) (by omega)
    replace hd := (hd.below (he1.below (B := W.heap.size) (by omega) (by omega)) (Nat.le_refl _))
    have aL_l : W.heap.size < w1.heap.size := (by omega)
    refine (szDisk_d Ac nc cc Aw nw cw dc dw w1 (hd.more (by omega)) hc hw).mono ?_
    rintro e w2 ⟨rfl, hb⟩
    have he2 : Eff 0 0 w1 w2 := Eff.of hb
    have hz2 : w1.heap.size ≤ w2.heap.size := he2.size
    have b2 : Below W.heap.size W w2 := b1.trans (he2.below b1.size (by omega))
    replace hd := (hd.below (he2.below (B := W.heap.size) (by omega) (by omega)) (Nat.le_refl _))
    replace aL_0 := he2.cell aL_0 (by simp only; omega)
    replace aL_1 := he2.cell aL_1 (by simp only; omega)
    replace aL_2 := he2.cell aL_2 (by simp only; omega)
    replace aL_3 := he2.cell aL_3 (by simp only; omega)
    replace aL_l := Nat.lt_of_lt_of_le aL_l hz2
    clear hb
    rw [if_pos (by omega)]
    go_wp2_with fail
    go_ret
    exact ⟨rfl, b2⟩
  · rw [if_neg h]
    have h2 : 0 ≤ (1048576 : Int) - (totD dc dw : Int) := by omega
    go_enter Try.func36, Try.ntmps36
    go_wp2_with fail
    have he1 : Eff 0 0 W (W.alloc (.cells #[.slice Ac nc cc, .slice Aw nw cw, .int .i64 x, .int .i64 y] 57)) := Eff.alloc _ _
    have hs1 : (W.alloc (.cells #[.slice Ac nc cc, .slice Aw nw cw, .int .i64 x, .int .i64 y] 57)).heap.size = W.heap.size + 1 := (by simp)
    have aL_0 : (W.alloc (.cells #[.slice Ac nc cc, .slice Aw nw cw, .int .i64 x, .int .i64 y] 57)).cell? ⟨W.heap.size, 0, none⟩ = some (.slice Ac nc cc) := var_cell _ _ _ _ _ rfl
    have aL_1 : (W.alloc (.cells #[.slice Ac nc cc, .slice Aw nw cw, .int .i64 x, .int .i64 y] 57)).cell? ⟨W.heap.size, 1, none⟩ = some (.slice Aw nw cw) := var_cell _ _ _ _ _ rfl
    have aL_2 : (W.alloc (.cells #[.slice Ac nc cc, .slice Aw nw cw, .int .i64 x, .int .i64 y] 57)).cell? ⟨W.heap.size, 2, none⟩ = some (.int .i64 x) := var_cell _ _ _ _ _ rfl
    have aL_3 : (W.alloc (.cells #[.slice Ac nc cc, .slice Aw nw cw, .int .i64 x, .int .i64 y] 57)).cell? ⟨W.heap.size, 3, none⟩ = some (.int .i64 y) := var_cell _ _ _ _ _ rfl
    generalize (W.alloc (.cells #[.slice Ac nc cc, .slice Aw nw cw, .int .i64 x, .int .i64 y] 57)) = w1 at *
    have hz1 : W.heap.size ≤ w1.heap.size := he1.size
    have b1 : Below W.heap.size W w1 := he1.below (Nat.le_refl _) (by omega)
    replace hd := (hd.below (he1.below (B := W.heap.size) (by omega) (by omega)) (Nat.le_refl _))
    have aL_l : W.heap.size < w1.heap.size := (by omega)
    refine (szDisk_d Ac nc cc Aw nw cw dc dw w1 (hd.more (by omega)) hc hw).mono ?_
    rintro e w2 ⟨rfl, hb⟩
    have he2 : Eff 0 0 w1 w2 := Eff.of hb
    have hz2 : w1.heap.size ≤ w2.heap.size := he2.size
    have b2 : Below W.heap.size W w2 := b1.trans (he2.below b1.size (by omega))
    replace hd := (hd.below (he2.below (B := W.heap.size) (by omega) (by omega)) (Nat.le_refl _))
    replace aL_0 := he2.cell aL_0 (by simp only; omega)
    replace aL_1 := he2.cell aL_1 (by simp only; omega)
    replace aL_2 := he2.cell aL_2 (by simp only; omega)
    replace aL_3 := he2.cell aL_3 (by simp only; omega)
    replace aL_l := Nat.lt_of_lt_of_le aL_l hz2
    clear hb
    rw [if_neg (by omega)]
    go_wp2_with fail
    go_ret
    exact ⟨rfl, b2⟩
set_option maxHeartbeats 1000000 in
set_option maxRecDepth 100000 in
theorem eqLog_d (Ac : Option Addr) (nc cc : Nat) (Aw : Option Addr) (nw cw : Nat) (Ac' : Option Addr) (nc' cc' : Nat) (Aw' : Option Addr) (nw' cw' : Nat) (dc : List (List UInt8)) (dw : List (Int × List UInt8)) (x y : Int) (W : World) (hd : RdDk W W.heap.size Ac nc Aw nw dc dw) (hd' : RdDk W W.heap.size Ac' nc' Aw' nw' dc dw) (LB : lenB dc dw) :
    Calls Try.prog 40 #[.agg #[.slice Ac nc cc, .slice Aw nw cw, .int .i64 x, .int .i64 y], .agg #[.slice Ac' nc' cc', .slice Aw' nw' cw', .int .i64 x, .int .i64 y]] W fun e w' => e = .returned (.bool true) ∧ Below W.heap.size W w' := by
  have e1 : (x != x) = false := by simp
  have e2 : (y != y) = false := by simp
  go_enter Try.func40, Try.ntmps40
  go_wp2_with fail
  have he1 : Eff 0 0 W (W.alloc (.cells #[.slice Ac nc cc, .slice Aw nw cw, .int .i64 x, .int .i64 y] 60)) := Eff.alloc _ _
  have hs1 : (W.alloc (.cells #[.slice Ac nc cc, .slice Aw nw cw, .int .i64 x, .int .i64 y] 60)).heap.size = W.heap.size + 1 := (by simp)
  have a_0 : (W.alloc (.cells #[.slice Ac nc cc, .slice Aw nw cw, .int .i64 x, .int .i64 y] 60)).cell? ⟨W.heap.size, 0, none⟩ = some (.slice Ac nc cc) := var_cell _ _ _ _ _ rfl
  have a_1 : (W.alloc (.cells #[.slice Ac nc cc, .slice Aw nw cw, .int .i64 x, .int .i64 y] 60)).cell? ⟨W.heap.size, 1, none⟩ = some (.slice Aw nw cw) := var_cell _ _ _ _ _ rfl
  have a_2 : (W.alloc (.cells #[.slice Ac nc cc, .slice Aw nw cw, .int .i64 x, .int .i64 y] 60)).cell? ⟨W.heap.size, 2, none⟩ = some (.int .i64 x) := var_cell _ _ _ _ _ rfl
  have a_3 : (W.alloc (.cells #[.slice Ac nc cc, .slice Aw nw cw, .int .i64 x, .int .i64 y] 60)).cell? ⟨W.heap.size, 3, none⟩ = some (.int .i64 y) := var_cell _ _ _ _ _ rfl
  generalize (W.alloc (.cells #[.slice Ac nc cc, .slice Aw nw cw, .int .i64 x, .int .i64 y] 60)) = w1 at *
  have hz1 : W.heap.size ≤ w1.heap.size := he1.size
  have b1 : Below W.heap.size W w1 := he1.below (Nat.le_refl _) (by omega)
  replace hd := (hd.below (he1.below (B := W.heap.size) (by omega) (by omega)) (Nat.le_refl _))
  replace hd' := (hd'.below (he1.below (B := W.heap.size) (by omega) (by omega)) (Nat.le_refl _))
  have a_l : W.heap.size < w1.heap.size := (by omega)
  have he2 : Eff 0 0 w1 (w1.alloc (.cells #[.slice Ac' nc' cc', .slice Aw' nw' cw', .int .i64 x, .int .i64 y] 60)) := Eff.alloc _ _
  have hs2 : (w1.alloc (.cells #[.slice Ac' nc' cc', .slice Aw' nw' cw', .int .i64 x, .int .i64 y] 60)).heap.size = w1.heap.size + 1 := (by simp)
  have b_0 : (w1.alloc (.cells #[.slice Ac' nc' cc', .slice Aw' nw' cw', .int .i64 x, .int .i64 y] 60)).cell? ⟨w1.heap.size, 0, none⟩ = some (.slice Ac' nc' cc') := var_cell _ _ _ _ _ rfl
  have b_1 : (w1.alloc (.cells #[.slice Ac' nc' cc', .slice Aw' nw' cw', .int .i64 x, .int .i64 y] 60)).cell? ⟨w1.heap.size, 1, none⟩ = some (.slice Aw' nw' cw') := var_cell _ _ _ _ _ rfl
  have b_2 : (w1.alloc (.cells #[.slice Ac' nc' cc', .slice Aw' nw' cw', .int .i64 x, .int .i64 y] 60)).cell? ⟨w1.heap.size, 2, none⟩ = some (.int .i64 x) := var_cell _ _ _ _ _ rfl
  have b_3 : (w1.alloc (.cells #[.slice Ac' nc' cc', .slice Aw' nw' cw', .int .i64 x, .int .i64 y] 60)).cell? ⟨w1.heap.size, 3, none⟩ = some (.int .i64 y) := var_cell _ _ _ _ _ rfl
  generalize (w1.alloc (.cells #[.slice Ac' nc' cc', .slice Aw' nw' cw', .int .i64 x, .int .i64 y] 60)) = w2 at *
  have hz2 : w1.heap.size ≤ w2.heap.size := he2.size
  have b2 : Below W.heap.size W w2 := b1.trans (he2.below b1.size (by omega))
  replace hd := (hd.below (he2.below (B := W.heap.size) (by omega) (by omega)) (Nat.le_refl _))
  replace hd' := (hd'.below (he2.below (B := W.heap.size) (by omega) (by omega)) (Nat.le_refl _))
  replace a_0 := he2.cell a_0 (by simp only; omega)
  replace a_1 := he2.cell a_1 (by simp only; omega)
  replace a_2 := he2.cell a_2 (by simp only; omega)
  replace a_3 := he2.cell a_3 (by simp only; omega)
  replace a_l := Nat.lt_of_lt_of_le a_l hz2
  rw [hs1] at b_0
  rw [hs1] at b_1
  rw [hs1] at b_2
  rw [hs1] at b_3
  have b_l : W.heap.size + 1 < w2.heap.size := (by omega)
  refine (eqDisk_d Ac nc cc Aw nw cw Ac' nc' cc' Aw' nw' cw' _ _ w2 (hd.more (by omega)) (hd'.more (by omega)) LB).mono ?_
  rintro e w3 ⟨rfl, hb⟩
  have he3 : Eff 0 0 w2 w3 := Eff.of hb
  have hz3 : w2.heap.size ≤ w3.heap.size := he3.size
  have b3 : Below W.heap.size W w3 := b2.trans (he3.below b2.size (by omega))
  replace hd := (hd.below (he3.below (B := W.heap.size) (by omega) (by omega)) (Nat.le_refl _))
  replace hd' := (hd'.below (he3.below (B := W.heap.size) (by omega) (by omega)) (Nat.le_refl _))
  replace a_0 := he3.cell a_0 (by simp only; omega)
  replace a_1 := he3.cell a_1 (by simp only; omega)
  replace a_2 := he3.cell a_2 (by simp only; omega)
  replace a_3 := he3.cell a_3 (by simp only; omega)
  replace b_0 := he3.cell b_0 (by simp only; omega)
  replace b_1 := he3.cell b_1 (by simp only; omega)
  replace b_2 := he3.cell b_2 (by simp only; omega)
  replace b_3 := he3.cell b_3 (by simp only; omega)
  replace a_l := Nat.lt_of_lt_of_le a_l hz3
  replace b_l := Nat.lt_of_lt_of_le b_l hz3
  clear hb
  go_wp2_with fail
  go_ret
  exact ⟨rfl, b3⟩
set_option maxHeartbeats 1000000 in
set_option maxRecDepth 100000 in
theorem markLog_d (Ac : Option Addr) (nc cc : Nat) (Aw : Option Addr) (nw cw : Nat) (dc : List (List UInt8)) (dw : List (Int × List UInt8)) (x y : Int) (k0 lo hi : Nat) (w : World) (t : OwnD w lo hi Ac nc cc Aw nw cw dc dw) (LB : lenB dc dw) (hk : k0 ≤ 1048576) (z : Int) (hz : z = (k0 : Int)) :
    Calls Try.prog 41 #[.agg #[.slice Ac nc cc, .slice Aw nw cw, .int .i64 x, .int .i64 y], .int .i64 z] w (MarkedD Ac nc cc Aw nw cw k0 lo hi dc dw w) := by
  subst hz
  have htl := t.lohi
  have htm := t.le
  go_enter Try.func41, Try.ntmps41
  go_wp2_with fail
  have he1 : Eff 0 0 w (w.alloc (.cells #[.slice Ac nc cc, .slice Aw nw cw, .int .i64 x, .int .i64 y] 60)) := Eff.alloc _ _
  replace t := t.keep he1 (by omega)
  refine (markDisk_d Ac nc cc Aw nw cw k0 lo hi dc dw _ t LB hk _ rfl).mono ?_
  rintro e w2 ⟨rfl, t, he⟩
  go_wp2_with fail
  go_ret
  exact ⟨rfl, t, (he1.anyD).trans he⟩
set_option maxHeartbeats 1000000 in
set_option maxRecDepth 100000 in
theorem heldLog_d (Ac : Option Addr) (nc cc : Nat) (Aw : Option Addr) (nw cw : Nat) (dc : List (List UInt8)) (dw : List (Int × List UInt8)) (x y : Int) (k0 : Nat) (W : World) (h : RdDk W W.heap.size Ac nc Aw nw (marksCell k0 (nsC dc)) (marksWrite (k0 + totS 0 1 (nsC dc)) (nsW dw))) (LB : lenB dc dw) (hk : k0 ≤ 1048576) (z : Int) (hz : z = (k0 : Int)) :
    Calls Try.prog 42 #[.agg #[.slice Ac nc cc, .slice Aw nw cw, .int .i64 x, .int .i64 y], .int .i64 z] W fun e w' => e = .returned (.int .i64 ((k0 + mkD dc dw : Nat) : Int)) ∧ Below W.heap.size W w' := by
    subst hz
    have hmm := LB.mk hk
    have hm2 : 0 ≤ ((k0 + mkD dc dw : Nat) : Int) := by omega
    obtain ⟨R, hR⟩ : ∃ R : Int, ((k0 + mkD dc dw : Nat) : Int) = R := ⟨_, rfl⟩
    rw [hR] at hm2 ⊢
    have HR := Lib.hid hR
    clear hR hmm
    go_enter Try.func42, Try.ntmps42
    go_wp2_with fail
    have he1 : Eff 0 0 W (W.alloc (.cells #[.slice Ac nc cc, .slice Aw nw cw, .int .i64 x, .int .i64 y] 60)) := Eff.alloc _ _
    have hs1 : (W.alloc (.cells #[.slice Ac nc cc, .slice Aw nw cw, .int .i64 x, .int .i64 y] 60)).heap.size = W.heap.size + 1 := (by simp)
    have a_0 : (W.alloc (.cells #[.slice Ac nc cc, .slice Aw nw cw, .int .i64 x, .int .i64 y] 60)).cell? ⟨W.heap.size, 0, none⟩ = some (.slice Ac nc cc) := var_cell _ _ _ _ _ rfl
    have a_1 : (W.alloc (.cells #[.slice Ac nc cc, .slice Aw nw cw, .int .i64 x, .int .i64 y] 60)).cell? ⟨W.heap.size, 1, none⟩ = some (.slice Aw nw cw) := var_cell _ _ _ _ _ rfl
    have a_2 : (W.alloc (.cells #[.slice Ac nc cc, .slice Aw nw cw, .int .i64 x, .int .i64 y] 60)).cell? ⟨W.heap.size, 2, none⟩ = some (.int .i64 x) := var_cell _ _ _ _ _ rfl
    have a_3 : (W.alloc (.cells #[.slice Ac nc cc, .slice Aw nw cw, .int .i64 x, .int .i64 y] 60)).cell? ⟨W.heap.size, 3, none⟩ = some (.int .i64 y) := var_cell _ _ _ _ _ rfl
    generalize (W.alloc (.cells #[.slice Ac nc cc, .slice Aw nw cw, .int .i64 x, .int .i64 y] 60)) = w1 at *
    have hz1 : W.heap.size ≤ w1.heap.size := he1.size
    have b1 : Below W.heap.size W w1 := he1.below (Nat.le_refl _) (by omega)
    replace h := (h.below (he1.below (B := W.heap.size) (by omega) (by omega)) (Nat.le_refl _))
    have a_l : W.heap.size < w1.heap.size := (by omega)
    refine (heldDisk_d Ac nc cc Aw nw cw k0 dc dw w1 (h.more (by omega)) LB hk _ rfl).mono ?_
    rintro e w2 ⟨rfl, hb⟩
    have he2 : Eff 0 0 w1 w2 := Eff.of hb
    have hz2 : w1.heap.size ≤ w2.heap.size := he2.size
    have b2 : Below W.heap.size W w2 := b1.trans (he2.below b1.size (by omega))
    replace h := (h.below (he2.below (B := W.heap.size) (by omega) (by omega)) (Nat.le_refl _))
    replace a_0 := he2.cell a_0 (by simp only; omega)
    replace a_1 := he2.cell a_1 (by simp only; omega)
    replace a_2 := he2.cell a_2 (by simp only; omega)
    replace a_3 := he2.cell a_3 (by simp only; omega)
    replace a_l := Nat.lt_of_lt_of_le a_l hz2
    clear hb
    rw [HR.out]
    go_wp2_with fail
    go_ret
    exact ⟨rfl, b2⟩
end Go.Proofs.Ytblenfhacaecmaa
