/- The walk of the law on LogSync. -/
import Derived.Test.YtblenfhacaecmaaLgs
import Derived.Test.YtblenfhacaecmaaDsyL
import Derived.Deep.RegionHeld3
namespace Go.Proofs.Ytblenfhacaecmaa
open Go.RowKit
set_option maxHeartbeats 4000000 in
set_option maxRecDepth 100000 in
theorem walk_FnExactLogSync (Ac : Option Addr) (nc cc : Nat) (Aw : Option Addr) (nw cw : Nat) (dc : List (List UInt8)) (dw : List (Int × List UInt8)) (x y : Int) (_wx : (Lit.int .i64 x).wf = true) (_wy : (Lit.int .i64 y).wf = true) (W : World) (hca : nc ≤ cc ∧ cc ≤ maxLen) (hcb : nw ≤ cw ∧ cw ≤ maxLen) (hd : RdDk W W.heap.size Ac nc Aw nw dc dw) :
    Calls Try.prog 9 #[.agg #[.slice Ac nc cc, .slice Aw nw cw, .int .i64 x, .int .i64 y]] W fun e w' => e = .returned (.bool true) ∧ Below W.heap.size W w' := by
  unfold maxLen at hca hcb
  have hlen := hd.len
  have hna : nc ≤ 9223372036854775807 := by omega
  have hnb : nw ≤ 9223372036854775807 := by omega
  clear hca hcb
  by_cases hsz : 1048576 < totD dc dw
  · clear hlen
    go_enter Try.func9, Try.ntmps9
    go_wp2_with (go_at_call 36; refine (szLog_d Ac nc cc Aw nw cw dc dw x y _ ((hd.below ((Below.refl _ _).alloc (Nat.le_refl _) _) (Nat.le_refl _)).more (by simp)) hna hnb).mono ?_; rintro e w1 ⟨rfl, hb1⟩; rw [if_pos (by omega)])
    go_ret
    exact ⟨rfl, ((Below.refl _ _).alloc (Nat.le_refl _) _).trans (hb1.mono (by simp))⟩
  · have hlb := lenB_sz (dc := dc) (dw := dw) (by omega)
    have hnc : nc ≤ 1048576 := by have := hlb.1; omega
    have hnw : nw ≤ 1048576 := by have := hlb.2.1; omega
    have LB := Lib.hid hlb
    clear hlb hlen hna hnb
    obtain ⟨RC, hRC⟩ : ∃ R, (if dkOk dc dw then syncN dc dw dw.length else []) = R := ⟨_, rfl⟩
    obtain ⟨X, hX⟩ : ∃ X, (if dkOk dc dw then x else 0) = X := ⟨_, rfl⟩
    obtain ⟨Y, hY⟩ : ∃ Y, (if dkOk dc dw then y else 0) = Y := ⟨_, rfl⟩
    have hLR : lenB RC [] := by
      rw [← hRC]
      rcases hh : dkOk dc dw with _ | _
      · exact ⟨by simp, by simp, by simp, by simp⟩
      · simp only [if_true]
        exact lenB_sync hh LB.out
    have HS : ∀ (Ac : Option Addr) (nc cc : Nat) (Aw : Option Addr) (nw cw : Nat) (W : World), RdDk W W.heap.size Ac nc Aw nw dc dw → Calls Try.prog 37 #[.agg #[.slice Ac nc cc, .slice Aw nw cw, .int .i64 x, .int .i64 y]] W (MadeLg RC [] X Y W) := fun Ac nc cc Aw nw cw W h => by
      have := spec_LogSync_d Ac nc cc Aw nw cw dc dw x y W h LB.out
      rw [hRC, hX, hY] at this; exact this
    have HI : ∀ (Ac : Option Addr) (nc cc : Nat) (Aw : Option Addr) (nw cw : Nat) (W : World), RdDk W W.heap.size Ac nc Aw nw dc dw → Calls Try.prog 39 #[.agg #[.slice Ac nc cc, .slice Aw nw cw, .int .i64 x, .int .i64 y]] W (MadeLg RC [] X Y W) := fun Ac nc cc Aw nw cw W h => by
      have := impl_LogSync_d Ac nc cc Aw nw cw dc dw x y W h LB.out
      rw [hRC, hX, hY] at this; exact this
    replace HS := Lib.hid HS
    replace HI := Lib.hid HI
    have LR := Lib.hid hLR
    have hmk : mkD dc dw ≤ 1048576 := Nat.le_trans mkD_le (by omega)
    have hmr : mkD RC [] ≤ 4611686018427387904 := by have := hLR.mk (k := 0) (by omega); unfold mkD; omega
    clear hRC hX hY hLR
    go_enter Try.func9, Try.ntmps9
    go_wp2_with fail
    have he1 : Eff 0 0 W (W.alloc (.cells #[.slice Ac nc cc, .slice Aw nw cw, .int .i64 x, .int .i64 y] 57)) := Eff.alloc _ _
    have hs1 : (W.alloc (.cells #[.slice Ac nc cc, .slice Aw nw cw, .int .i64 x, .int .i64 y] 57)).heap.size = W.heap.size + 1 := (by simp)
    have aL_0 : (W.alloc (.cells #[.slice Ac nc cc, .slice Aw nw cw, .int .i64 x, .int .i64 y] 57)).cell? ⟨W.heap.size, 0, none⟩ = some (.slice Ac nc cc) := var_cell _ _ _ _ _ rfl
    have aL_1 : (W.alloc (.cells #[.slice Ac nc cc, .slice Aw nw cw, .int .i64 x, .int .i64 y] 57)).cell? ⟨W.heap.size, 1, none⟩ = some (.slice Aw nw cw) := var_cell _ _ _ _ _ rfl
    have aL_2 : (W.alloc (.cells #[.slice Ac nc cc, .slice Aw nw cw, .int .i64 x, .int .i64 y] 57)).cell? ⟨W.heap.size, 2, none⟩ = some (.int .i64 x) := var_cell _ _ _ _ _ rfl
    have aL_3 : (W.alloc (.cells #[.slice Ac nc cc, .slice Aw nw cw, .int .i64 x, .int .i64 y] 57)).cell? ⟨W.heap.size, 3, none⟩ = some (.int .i64 y) := var_cell _ _ _ _ _ rfl
    generalize (W.alloc (.cells #[.slice Ac nc cc, .slice Aw nw cw, .int .i64 x, .int .i64 y] 57)) = w1 at *
    have hz1 : W.heap.size ≤ w1.heap.size := he1.size
    have b1 : Below W.heap.size W w1 := he1.below (Nat.le_refl _) (by omega)
    replace hd := (hd.below (he1.below (B := W.heap.size) (by omega) (by omega)) (Nat.le_refl _))
    have aL_l : W.heap.size < w1.heap.size := (by omega)
    refine (szLog_d Ac nc cc Aw nw cw dc dw x y w1 (hd.more (by omega)) (by omega) (by omega)).mono ?_
    rintro e w2 ⟨rfl, hb⟩
    have he2 : Eff 0 0 w1 w2 := Eff.of hb
    have hz2 : w1.heap.size ≤ w2.heap.size := he2.size
    have b2 : Below W.heap.size W w2 := b1.trans (he2.below b1.size (by omega))
    replace hd := (hd.below (he2.below (B := W.heap.size) (by omega) (by omega)) (Nat.le_refl _))
    replace aL_0 := he2.cell aL_0 (by simp only; omega)
    replace aL_1 := he2.cell aL_1 (by simp only; omega)
    replace aL_2 := he2.cell aL_2 (by simp only; omega)
    replace aL_3 := he2.cell aL_3 (by simp only; omega)
    replace aL_l := Nat.lt_of_lt_of_le aL_l hz2
    clear hb
    rw [if_neg (by omega)]
    go_wp2_with fail
    refine (toLog_d Ac nc cc Aw nw cw dc dw x y w2 (hd.more (by omega)) LB.out).mono ?_
    rintro e w3 ⟨Act, nct, cct, Awt, nwt, cwt, qct, qwt, rfl, t, hb⟩
    have he3 : Eff 0 0 w2 w3 := Eff.of hb
    have hz3 : w2.heap.size ≤ w3.heap.size := he3.size
    have b3 : Below W.heap.size W w3 := b2.trans (he3.below b2.size (by omega))
    replace hd := (hd.below (he3.below (B := W.heap.size) (by omega) (by omega)) (Nat.le_refl _))
    replace aL_0 := he3.cell aL_0 (by simp only; omega)
    replace aL_1 := he3.cell aL_1 (by simp only; omega)
    replace aL_2 := he3.cell aL_2 (by simp only; omega)
    replace aL_3 := he3.cell aL_3 (by simp only; omega)
    replace aL_l := Nat.lt_of_lt_of_le aL_l hz3
    clear hb
    have QCt := Lib.hid qct
    have QWt := Lib.hid qwt
    clear qct qwt
    go_wp2_with fail
    refine (HS.out Act nct cct Awt nwt cwt w3 (t.rd (by omega))).mono ?_
    rintro e w4 ⟨Acw0, ncw0, ccw0, Aww0, nww0, cww0, qcw0, qww0, rfl, w0, hb⟩
    have he4 : Eff 0 0 w3 w4 := Eff.of hb
    have hz4 : w3.heap.size ≤ w4.heap.size := he4.size
    have b4 : Below W.heap.size W w4 := b3.trans (he4.below b3.size (by omega))
    replace hd := (hd.below (he4.below (B := W.heap.size) (by omega) (by omega)) (Nat.le_refl _))
    replace t := t.keep he4 (by omega)
    replace aL_0 := he4.cell aL_0 (by simp only; omega)
    replace aL_1 := he4.cell aL_1 (by simp only; omega)
    replace aL_2 := he4.cell aL_2 (by simp only; omega)
    replace aL_3 := he4.cell aL_3 (by simp only; omega)
    replace aL_l := Nat.lt_of_lt_of_le aL_l hz4
    clear hb
    have QCw0 := Lib.hid qcw0
    have QWw0 := Lib.hid qww0
    clear qcw0 qww0
    clear t
    go_wp2_with fail
    have he5 : Eff 0 0 w4 (w4.alloc (.cells #[.slice Acw0 ncw0 ccw0, .slice Aww0 nww0 cww0, .int .i64 X, .int .i64 Y] 60)) := Eff.alloc _ _
    have hs5 : (w4.alloc (.cells #[.slice Acw0 ncw0 ccw0, .slice Aww0 nww0 cww0, .int .i64 X, .int .i64 Y] 60)).heap.size = w4.heap.size + 1 := (by simp)
    have z0_0 : (w4.alloc (.cells #[.slice Acw0 ncw0 ccw0, .slice Aww0 nww0 cww0, .int .i64 X, .int .i64 Y] 60)).cell? ⟨w4.heap.size, 0, none⟩ = some (.slice Acw0 ncw0 ccw0) := var_cell _ _ _ _ _ rfl
    have z0_1 : (w4.alloc (.cells #[.slice Acw0 ncw0 ccw0, .slice Aww0 nww0 cww0, .int .i64 X, .int .i64 Y] 60)).cell? ⟨w4.heap.size, 1, none⟩ = some (.slice Aww0 nww0 cww0) := var_cell _ _ _ _ _ rfl
    have z0_2 : (w4.alloc (.cells #[.slice Acw0 ncw0 ccw0, .slice Aww0 nww0 cww0, .int .i64 X, .int .i64 Y] 60)).cell? ⟨w4.heap.size, 2, none⟩ = some (.int .i64 X) := var_cell _ _ _ _ _ rfl
    have z0_3 : (w4.alloc (.cells #[.slice Acw0 ncw0 ccw0, .slice Aww0 nww0 cww0, .int .i64 X, .int .i64 Y] 60)).cell? ⟨w4.heap.size, 3, none⟩ = some (.int .i64 Y) := var_cell _ _ _ _ _ rfl
    generalize (w4.alloc (.cells #[.slice Acw0 ncw0 ccw0, .slice Aww0 nww0 cww0, .int .i64 X, .int .i64 Y] 60)) = w5 at *
    have hz5 : w4.heap.size ≤ w5.heap.size := he5.size
    have b5 : Below W.heap.size W w5 := b4.trans (he5.below b4.size (by omega))
    replace hd := (hd.below (he5.below (B := W.heap.size) (by omega) (by omega)) (Nat.le_refl _))
    replace w0 := w0.keep he5 (by omega)
    replace aL_0 := he5.cell aL_0 (by simp only; omega)
    replace aL_1 := he5.cell aL_1 (by simp only; omega)
    replace aL_2 := he5.cell aL_2 (by simp only; omega)
    replace aL_3 := he5.cell aL_3 (by simp only; omega)
    replace aL_l := Nat.lt_of_lt_of_le aL_l hz5
    have z0_l : w4.heap.size < w5.heap.size := (by omega)
    refine (toLog_d Ac nc cc Aw nw cw dc dw x y w5 (hd.more (by omega)) LB.out).mono ?_
    rintro e w6 ⟨Acx1, ncx1, ccx1, Awx1, nwx1, cwx1, qcx1, qwx1, rfl, x1, hb⟩
    have he6 : Eff 0 0 w5 w6 := Eff.of hb
    have hz6 : w5.heap.size ≤ w6.heap.size := he6.size
    have b6 : Below W.heap.size W w6 := b5.trans (he6.below b5.size (by omega))
    replace hd := (hd.below (he6.below (B := W.heap.size) (by omega) (by omega)) (Nat.le_refl _))
    replace w0 := w0.keep he6 (by omega)
    replace aL_0 := he6.cell aL_0 (by simp only; omega)
    replace aL_1 := he6.cell aL_1 (by simp only; omega)
    replace aL_2 := he6.cell aL_2 (by simp only; omega)
    replace aL_3 := he6.cell aL_3 (by simp only; omega)
    replace z0_0 := he6.cell z0_0 (by simp only; omega)
    replace z0_1 := he6.cell z0_1 (by simp only; omega)
    replace z0_2 := he6.cell z0_2 (by simp only; omega)
    replace z0_3 := he6.cell z0_3 (by simp only; omega)
    replace aL_l := Nat.lt_of_lt_of_le aL_l hz6
    replace z0_l := Nat.lt_of_lt_of_le z0_l hz6
    clear hb
    have QCx1 := Lib.hid qcx1
    have QWx1 := Lib.hid qwx1
    clear qcx1 qwx1
    go_wp2_with fail
    have he7 : Eff 0 0 w6 (w6.alloc (.cells #[.slice Acx1 ncx1 ccx1, .slice Awx1 nwx1 cwx1, .int .i64 x, .int .i64 y] 60)) := Eff.alloc _ _
    have hs7 : (w6.alloc (.cells #[.slice Acx1 ncx1 ccx1, .slice Awx1 nwx1 cwx1, .int .i64 x, .int .i64 y] 60)).heap.size = w6.heap.size + 1 := (by simp)
    have x0_0 : (w6.alloc (.cells #[.slice Acx1 ncx1 ccx1, .slice Awx1 nwx1 cwx1, .int .i64 x, .int .i64 y] 60)).cell? ⟨w6.heap.size, 0, none⟩ = some (.slice Acx1 ncx1 ccx1) := var_cell _ _ _ _ _ rfl
    have x0_1 : (w6.alloc (.cells #[.slice Acx1 ncx1 ccx1, .slice Awx1 nwx1 cwx1, .int .i64 x, .int .i64 y] 60)).cell? ⟨w6.heap.size, 1, none⟩ = some (.slice Awx1 nwx1 cwx1) := var_cell _ _ _ _ _ rfl
    have x0_2 : (w6.alloc (.cells #[.slice Acx1 ncx1 ccx1, .slice Awx1 nwx1 cwx1, .int .i64 x, .int .i64 y] 60)).cell? ⟨w6.heap.size, 2, none⟩ = some (.int .i64 x) := var_cell _ _ _ _ _ rfl
    have x0_3 : (w6.alloc (.cells #[.slice Acx1 ncx1 ccx1, .slice Awx1 nwx1 cwx1, .int .i64 x, .int .i64 y] 60)).cell? ⟨w6.heap.size, 3, none⟩ = some (.int .i64 y) := var_cell _ _ _ _ _ rfl
    generalize (w6.alloc (.cells #[.slice Acx1 ncx1 ccx1, .slice Awx1 nwx1 cwx1, .int .i64 x, .int .i64 y] 60)) = w7 at *
    have hz7 : w6.heap.size ≤ w7.heap.size := he7.size
    have b7 : Below W.heap.size W w7 := b6.trans (he7.below b6.size (by omega))
    replace hd := (hd.below (he7.below (B := W.heap.size) (by omega) (by omega)) (Nat.le_refl _))
    replace w0 := w0.keep he7 (by omega)
    replace x1 := x1.keep he7 (by omega)
    replace aL_0 := he7.cell aL_0 (by simp only; omega)
    replace aL_1 := he7.cell aL_1 (by simp only; omega)
    replace aL_2 := he7.cell aL_2 (by simp only; omega)
    replace aL_3 := he7.cell aL_3 (by simp only; omega)
    replace z0_0 := he7.cell z0_0 (by simp only; omega)
    replace z0_1 := he7.cell z0_1 (by simp only; omega)
    replace z0_2 := he7.cell z0_2 (by simp only; omega)
    replace z0_3 := he7.cell z0_3 (by simp only; omega)
    replace aL_l := Nat.lt_of_lt_of_le aL_l hz7
    replace z0_l := Nat.lt_of_lt_of_le z0_l hz7
    have x0_l : w6.heap.size < w7.heap.size := (by omega)
    refine (HI.out Acx1 ncx1 ccx1 Awx1 nwx1 cwx1 w7 (x1.rd (by omega))).mono ?_
    rintro e w8 ⟨Acg, ncg, ccg, Awg, nwg, cwg, qcg, qwg, rfl, g, hb⟩
    have he8 : Eff 0 0 w7 w8 := Eff.of hb
    have hz8 : w7.heap.size ≤ w8.heap.size := he8.size
    have b8 : Below W.heap.size W w8 := b7.trans (he8.below b7.size (by omega))
    replace hd := (hd.below (he8.below (B := W.heap.size) (by omega) (by omega)) (Nat.le_refl _))
    replace w0 := w0.keep he8 (by omega)
    replace x1 := x1.keep he8 (by omega)
    replace aL_0 := he8.cell aL_0 (by simp only; omega)
    replace aL_1 := he8.cell aL_1 (by simp only; omega)
    replace aL_2 := he8.cell aL_2 (by simp only; omega)
    replace aL_3 := he8.cell aL_3 (by simp only; omega)
    replace z0_0 := he8.cell z0_0 (by simp only; omega)
    replace z0_1 := he8.cell z0_1 (by simp only; omega)
    replace z0_2 := he8.cell z0_2 (by simp only; omega)
    replace z0_3 := he8.cell z0_3 (by simp only; omega)
    replace x0_0 := he8.cell x0_0 (by simp only; omega)
    replace x0_1 := he8.cell x0_1 (by simp only; omega)
    replace x0_2 := he8.cell x0_2 (by simp only; omega)
    replace x0_3 := he8.cell x0_3 (by simp only; omega)
    replace aL_l := Nat.lt_of_lt_of_le aL_l hz8
    replace z0_l := Nat.lt_of_lt_of_le z0_l hz8
    replace x0_l := Nat.lt_of_lt_of_le x0_l hz8
    clear hb
    have QCg := Lib.hid qcg
    have QWg := Lib.hid qwg
    clear qcg qwg
    go_wp2_with fail
    have he9 : Eff 0 0 w8 (w8.alloc (.cells #[.slice Acg ncg ccg, .slice Awg nwg cwg, .int .i64 X, .int .i64 Y] 60)) := Eff.alloc _ _
    have hs9 : (w8.alloc (.cells #[.slice Acg ncg ccg, .slice Awg nwg cwg, .int .i64 X, .int .i64 Y] 60)).heap.size = w8.heap.size + 1 := (by simp)
    have g0_0 : (w8.alloc (.cells #[.slice Acg ncg ccg, .slice Awg nwg cwg, .int .i64 X, .int .i64 Y] 60)).cell? ⟨w8.heap.size, 0, none⟩ = some (.slice Acg ncg ccg) := var_cell _ _ _ _ _ rfl
    have g0_1 : (w8.alloc (.cells #[.slice Acg ncg ccg, .slice Awg nwg cwg, .int .i64 X, .int .i64 Y] 60)).cell? ⟨w8.heap.size, 1, none⟩ = some (.slice Awg nwg cwg) := var_cell _ _ _ _ _ rfl
    have g0_2 : (w8.alloc (.cells #[.slice Acg ncg ccg, .slice Awg nwg cwg, .int .i64 X, .int .i64 Y] 60)).cell? ⟨w8.heap.size, 2, none⟩ = some (.int .i64 X) := var_cell _ _ _ _ _ rfl
    have g0_3 : (w8.alloc (.cells #[.slice Acg ncg ccg, .slice Awg nwg cwg, .int .i64 X, .int .i64 Y] 60)).cell? ⟨w8.heap.size, 3, none⟩ = some (.int .i64 Y) := var_cell _ _ _ _ _ rfl
    generalize (w8.alloc (.cells #[.slice Acg ncg ccg, .slice Awg nwg cwg, .int .i64 X, .int .i64 Y] 60)) = w9 at *
    have hz9 : w8.heap.size ≤ w9.heap.size := he9.size
    have b9 : Below W.heap.size W w9 := b8.trans (he9.below b8.size (by omega))
    replace hd := (hd.below (he9.below (B := W.heap.size) (by omega) (by omega)) (Nat.le_refl _))
    replace w0 := w0.keep he9 (by omega)
    replace x1 := x1.keep he9 (by omega)
    replace g := g.keep he9 (by omega)
    replace aL_0 := he9.cell aL_0 (by simp only; omega)
    replace aL_1 := he9.cell aL_1 (by simp only; omega)
    replace aL_2 := he9.cell aL_2 (by simp only; omega)
    replace aL_3 := he9.cell aL_3 (by simp only; omega)
    replace z0_0 := he9.cell z0_0 (by simp only; omega)
    replace z0_1 := he9.cell z0_1 (by simp only; omega)
    replace z0_2 := he9.cell z0_2 (by simp only; omega)
    replace z0_3 := he9.cell z0_3 (by simp only; omega)
    replace x0_0 := he9.cell x0_0 (by simp only; omega)
    replace x0_1 := he9.cell x0_1 (by simp only; omega)
    replace x0_2 := he9.cell x0_2 (by simp only; omega)
    replace x0_3 := he9.cell x0_3 (by simp only; omega)
    replace aL_l := Nat.lt_of_lt_of_le aL_l hz9
    replace z0_l := Nat.lt_of_lt_of_le z0_l hz9
    replace x0_l := Nat.lt_of_lt_of_le x0_l hz9
    have g0_l : w8.heap.size < w9.heap.size := (by omega)
    refine (eqLog_d Acg ncg ccg Awg nwg cwg Acw0 ncw0 ccw0 Aww0 nww0 cww0 _ _ _ _ w9 (g.rd (by omega)) (w0.rd (by omega)) LR.out).mono ?_
    rintro e w10 ⟨rfl, hb⟩
    have he10 : Eff 0 0 w9 w10 := Eff.of hb
    have hz10 : w9.heap.size ≤ w10.heap.size := he10.size
    have b10 : Below W.heap.size W w10 := b9.trans (he10.below b9.size (by omega))
    replace hd := (hd.below (he10.below (B := W.heap.size) (by omega) (by omega)) (Nat.le_refl _))
    replace w0 := w0.keep he10 (by omega)
    replace x1 := x1.keep he10 (by omega)
    replace g := g.keep he10 (by omega)
    replace aL_0 := he10.cell aL_0 (by simp only; omega)
    replace aL_1 := he10.cell aL_1 (by simp only; omega)
    replace aL_2 := he10.cell aL_2 (by simp only; omega)
    replace aL_3 := he10.cell aL_3 (by simp only; omega)
    replace z0_0 := he10.cell z0_0 (by simp only; omega)
    replace z0_1 := he10.cell z0_1 (by simp only; omega)
    replace z0_2 := he10.cell z0_2 (by simp only; omega)
    replace z0_3 := he10.cell z0_3 (by simp only; omega)
    replace x0_0 := he10.cell x0_0 (by simp only; omega)
    replace x0_1 := he10.cell x0_1 (by simp only; omega)
    replace x0_2 := he10.cell x0_2 (by simp only; omega)
    replace x0_3 := he10.cell x0_3 (by simp only; omega)
    replace g0_0 := he10.cell g0_0 (by simp only; omega)
    replace g0_1 := he10.cell g0_1 (by simp only; omega)
    replace g0_2 := he10.cell g0_2 (by simp only; omega)
    replace g0_3 := he10.cell g0_3 (by simp only; omega)
    replace aL_l := Nat.lt_of_lt_of_le aL_l hz10
    replace z0_l := Nat.lt_of_lt_of_le z0_l hz10
    replace x0_l := Nat.lt_of_lt_of_le x0_l hz10
    replace g0_l := Nat.lt_of_lt_of_le g0_l hz10
    clear hb
    go_wp2_with fail
    have he11 : Eff 0 0 w10 w10.drew := (Eff.refl _ _ _).drew
    have hz11 : w10.heap.size ≤ w10.drew.heap.size := he11.size
    have b11 : Below W.heap.size W w10.drew := b10.trans (he11.below b10.size (by omega))
    replace hd := (hd.below (he11.below (B := W.heap.size) (by omega) (by omega)) (Nat.le_refl _))
    replace w0 := w0.keep he11 (by omega)
    replace x1 := x1.keep he11 (by omega)
    replace g := g.keep he11 (by omega)
    replace aL_0 := he11.cell aL_0 (by simp only; omega)
    replace aL_1 := he11.cell aL_1 (by simp only; omega)
    replace aL_2 := he11.cell aL_2 (by simp only; omega)
    replace aL_3 := he11.cell aL_3 (by simp only; omega)
    replace z0_0 := he11.cell z0_0 (by simp only; omega)
    replace z0_1 := he11.cell z0_1 (by simp only; omega)
    replace z0_2 := he11.cell z0_2 (by simp only; omega)
    replace z0_3 := he11.cell z0_3 (by simp only; omega)
    replace x0_0 := he11.cell x0_0 (by simp only; omega)
    replace x0_1 := he11.cell x0_1 (by simp only; omega)
    replace x0_2 := he11.cell x0_2 (by simp only; omega)
    replace x0_3 := he11.cell x0_3 (by simp only; omega)
    replace g0_0 := he11.cell g0_0 (by simp only; omega)
    replace g0_1 := he11.cell g0_1 (by simp only; omega)
    replace g0_2 := he11.cell g0_2 (by simp only; omega)
    replace g0_3 := he11.cell g0_3 (by simp only; omega)
    replace aL_l := Nat.lt_of_lt_of_le aL_l hz11
    replace z0_l := Nat.lt_of_lt_of_le z0_l hz11
    replace x0_l := Nat.lt_of_lt_of_le x0_l hz11
    replace g0_l := Nat.lt_of_lt_of_le g0_l hz11
    go_region_held3 (fun w' => w'.cell? ⟨W.heap.size, 0, none⟩ = some (.slice Ac nc cc) ∧ w'.cell? ⟨W.heap.size, 1, none⟩ = some (.slice Aw nw cw) ∧ w'.cell? ⟨W.heap.size, 2, none⟩ = some (.int .i64 x) ∧ w'.cell? ⟨W.heap.size, 3, none⟩ = some (.int .i64 y) ∧ w'.cell? ⟨w6.heap.size, 0, none⟩ = some (.slice Acx1 ncx1 ccx1) ∧ w'.cell? ⟨w6.heap.size, 1, none⟩ = some (.slice Awx1 nwx1 cwx1) ∧ w'.cell? ⟨w6.heap.size, 2, none⟩ = some (.int .i64 x) ∧ w'.cell? ⟨w6.heap.size, 3, none⟩ = some (.int .i64 y)) ((go_split_ands; (repeat' apply And.intro) <;> (first | assumption))) (first | (go_at_call 38; refine (toLog_d Ac nc cc Aw nw cw dc dw x y w10.drew (hd.more (by omega)) LB.out).mono ?_; rintro e w12 ⟨Acy1, ncy1, ccy1, Awy1, nwy1, cwy1, qcy1, qwy1, rfl, y1, hb⟩; have he12 : Eff 0 0 w10.drew w12 := Eff.of hb; have hz12 : w10.drew.heap.size ≤ w12.heap.size := he12.size; have b12 : Below W.heap.size W w12 := b11.trans (he12.below b11.size (by omega)); replace hd := (hd.below (he12.below (B := W.heap.size) (by omega) (by omega)) (Nat.le_refl _)); replace w0 := w0.keep he12 (by omega); replace x1 := x1.keep he12 (by omega); replace g := g.keep he12 (by omega); replace aL_0 := he12.cell aL_0 (by simp only; omega); replace aL_1 := he12.cell aL_1 (by simp only; omega); replace aL_2 := he12.cell aL_2 (by simp only; omega); replace aL_3 := he12.cell aL_3 (by simp only; omega); replace z0_0 := he12.cell z0_0 (by simp only; omega); replace z0_1 := he12.cell z0_1 (by simp only; omega); replace z0_2 := he12.cell z0_2 (by simp only; omega); replace z0_3 := he12.cell z0_3 (by simp only; omega); replace x0_0 := he12.cell x0_0 (by simp only; omega); replace x0_1 := he12.cell x0_1 (by simp only; omega); replace x0_2 := he12.cell x0_2 (by simp only; omega); replace x0_3 := he12.cell x0_3 (by simp only; omega); replace g0_0 := he12.cell g0_0 (by simp only; omega); replace g0_1 := he12.cell g0_1 (by simp only; omega); replace g0_2 := he12.cell g0_2 (by simp only; omega); replace g0_3 := he12.cell g0_3 (by simp only; omega); replace aL_l := Nat.lt_of_lt_of_le aL_l hz12; replace z0_l := Nat.lt_of_lt_of_le z0_l hz12; replace x0_l := Nat.lt_of_lt_of_le x0_l hz12; replace g0_l := Nat.lt_of_lt_of_le g0_l hz12; clear hb; have QCy1 := Lib.hid qcy1; have QWy1 := Lib.hid qwy1; clear qcy1 qwy1) | (go_at_call 40; refine (eqLog_d Acx1 ncx1 ccx1 Awx1 nwx1 cwx1 Acy1 ncy1 ccy1 Awy1 nwy1 cwy1 _ _ _ _ w12 (x1.rd (by omega)) (y1.rd (by omega)) LB.out).mono ?_; rintro e w13 ⟨rfl, hb⟩; have he13 : Eff 0 0 w12 w13 := Eff.of hb; have hz13 : w12.heap.size ≤ w13.heap.size := he13.size; have b13 : Below W.heap.size W w13 := b12.trans (he13.below b12.size (by omega)); replace hd := (hd.below (he13.below (B := W.heap.size) (by omega) (by omega)) (Nat.le_refl _)); replace w0 := w0.keep he13 (by omega); replace x1 := x1.keep he13 (by omega); replace g := g.keep he13 (by omega); replace y1 := y1.keep he13 (by omega); replace aL_0 := he13.cell aL_0 (by simp only; omega); replace aL_1 := he13.cell aL_1 (by simp only; omega); replace aL_2 := he13.cell aL_2 (by simp only; omega); replace aL_3 := he13.cell aL_3 (by simp only; omega); replace z0_0 := he13.cell z0_0 (by simp only; omega); replace z0_1 := he13.cell z0_1 (by simp only; omega); replace z0_2 := he13.cell z0_2 (by simp only; omega); replace z0_3 := he13.cell z0_3 (by simp only; omega); replace x0_0 := he13.cell x0_0 (by simp only; omega); replace x0_1 := he13.cell x0_1 (by simp only; omega); replace x0_2 := he13.cell x0_2 (by simp only; omega); replace x0_3 := he13.cell x0_3 (by simp only; omega); replace g0_0 := he13.cell g0_0 (by simp only; omega); replace g0_1 := he13.cell g0_1 (by simp only; omega); replace g0_2 := he13.cell g0_2 (by simp only; omega); replace g0_3 := he13.cell g0_3 (by simp only; omega); replace aL_l := Nat.lt_of_lt_of_le aL_l hz13; replace z0_l := Nat.lt_of_lt_of_le z0_l hz13; replace x0_l := Nat.lt_of_lt_of_le x0_l hz13; replace g0_l := Nat.lt_of_lt_of_le g0_l hz13; clear hb))
    clear y1
    go_wp2_with fail
    refine (markLog_d Acx1 ncx1 ccx1 Awx1 nwx1 cwx1 _ _ _ _ 1 (w5.heap.size) (w6.heap.size) w13 x1 LB.out (by omega) _ (by first | rfl | simp)).mono ?_
    rintro e w14 ⟨rfl, x1, he⟩
    have he14 : Eff (w5.heap.size) (w6.heap.size) w13 w14 := he
    have hz14 : w13.heap.size ≤ w14.heap.size := he14.size
    have b14 : Below W.heap.size W w14 := b13.trans (he14.below b13.size (by omega))
    replace hd := (hd.below (he14.below (B := W.heap.size) (by omega) (by omega)) (Nat.le_refl _))
    replace w0 := w0.keep he14 (by omega)
    replace g := g.keep he14 (by omega)
    replace aL_0 := he14.cell aL_0 (by simp only; omega)
    replace aL_1 := he14.cell aL_1 (by simp only; omega)
    replace aL_2 := he14.cell aL_2 (by simp only; omega)
    replace aL_3 := he14.cell aL_3 (by simp only; omega)
    replace z0_0 := he14.cell z0_0 (by simp only; omega)
    replace z0_1 := he14.cell z0_1 (by simp only; omega)
    replace z0_2 := he14.cell z0_2 (by simp only; omega)
    replace z0_3 := he14.cell z0_3 (by simp only; omega)
    replace x0_0 := he14.cell x0_0 (by simp only; omega)
    replace x0_1 := he14.cell x0_1 (by simp only; omega)
    replace x0_2 := he14.cell x0_2 (by simp only; omega)
    replace x0_3 := he14.cell x0_3 (by simp only; omega)
    replace g0_0 := he14.cell g0_0 (by simp only; omega)
    replace g0_1 := he14.cell g0_1 (by simp only; omega)
    replace g0_2 := he14.cell g0_2 (by simp only; omega)
    replace g0_3 := he14.cell g0_3 (by simp only; omega)
    replace aL_l := Nat.lt_of_lt_of_le aL_l hz14
    replace z0_l := Nat.lt_of_lt_of_le z0_l hz14
    replace x0_l := Nat.lt_of_lt_of_le x0_l hz14
    replace g0_l := Nat.lt_of_lt_of_le g0_l hz14
    clear he
    clear x1
    go_wp2_with fail
    refine (eqLog_d Acg ncg ccg Awg nwg cwg Acw0 ncw0 ccw0 Aww0 nww0 cww0 _ _ _ _ w14 (g.rd (by omega)) (w0.rd (by omega)) LR.out).mono ?_
    rintro e w15 ⟨rfl, hb⟩
    have he15 : Eff 0 0 w14 w15 := Eff.of hb
    have hz15 : w14.heap.size ≤ w15.heap.size := he15.size
    have b15 : Below W.heap.size W w15 := b14.trans (he15.below b14.size (by omega))
    replace hd := (hd.below (he15.below (B := W.heap.size) (by omega) (by omega)) (Nat.le_refl _))
    replace w0 := w0.keep he15 (by omega)
    replace g := g.keep he15 (by omega)
    replace aL_0 := he15.cell aL_0 (by simp only; omega)
    replace aL_1 := he15.cell aL_1 (by simp only; omega)
    replace aL_2 := he15.cell aL_2 (by simp only; omega)
    replace aL_3 := he15.cell aL_3 (by simp only; omega)
    replace z0_0 := he15.cell z0_0 (by simp only; omega)
    replace z0_1 := he15.cell z0_1 (by simp only; omega)
    replace z0_2 := he15.cell z0_2 (by simp only; omega)
    replace z0_3 := he15.cell z0_3 (by simp only; omega)
    replace x0_0 := he15.cell x0_0 (by simp only; omega)
    replace x0_1 := he15.cell x0_1 (by simp only; omega)
    replace x0_2 := he15.cell x0_2 (by simp only; omega)
    replace x0_3 := he15.cell x0_3 (by simp only; omega)
    replace g0_0 := he15.cell g0_0 (by simp only; omega)
    replace g0_1 := he15.cell g0_1 (by simp only; omega)
    replace g0_2 := he15.cell g0_2 (by simp only; omega)
    replace g0_3 := he15.cell g0_3 (by simp only; omega)
    replace aL_l := Nat.lt_of_lt_of_le aL_l hz15
    replace z0_l := Nat.lt_of_lt_of_le z0_l hz15
    replace x0_l := Nat.lt_of_lt_of_le x0_l hz15
    replace g0_l := Nat.lt_of_lt_of_le g0_l hz15
    clear hb
    go_wp2_with fail
    refine (markLog_d Acg ncg ccg Awg nwg cwg _ _ _ _ 1 (w7.heap.size) (w8.heap.size) w15 g LR.out (by omega) _ (by first | rfl | simp)).mono ?_
    rintro e w16 ⟨rfl, g, he⟩
    have he16 : Eff (w7.heap.size) (w8.heap.size) w15 w16 := he
    have hz16 : w15.heap.size ≤ w16.heap.size := he16.size
    have b16 : Below W.heap.size W w16 := b15.trans (he16.below b15.size (by omega))
    replace hd := (hd.below (he16.below (B := W.heap.size) (by omega) (by omega)) (Nat.le_refl _))
    replace w0 := w0.keep he16 (by omega)
    replace aL_0 := he16.cell aL_0 (by simp only; omega)
    replace aL_1 := he16.cell aL_1 (by simp only; omega)
    replace aL_2 := he16.cell aL_2 (by simp only; omega)
    replace aL_3 := he16.cell aL_3 (by simp only; omega)
    replace z0_0 := he16.cell z0_0 (by simp only; omega)
    replace z0_1 := he16.cell z0_1 (by simp only; omega)
    replace z0_2 := he16.cell z0_2 (by simp only; omega)
    replace z0_3 := he16.cell z0_3 (by simp only; omega)
    replace x0_0 := he16.cell x0_0 (by simp only; omega)
    replace x0_1 := he16.cell x0_1 (by simp only; omega)
    replace x0_2 := he16.cell x0_2 (by simp only; omega)
    replace x0_3 := he16.cell x0_3 (by simp only; omega)
    replace g0_0 := he16.cell g0_0 (by simp only; omega)
    replace g0_1 := he16.cell g0_1 (by simp only; omega)
    replace g0_2 := he16.cell g0_2 (by simp only; omega)
    replace g0_3 := he16.cell g0_3 (by simp only; omega)
    replace aL_l := Nat.lt_of_lt_of_le aL_l hz16
    replace z0_l := Nat.lt_of_lt_of_le z0_l hz16
    replace x0_l := Nat.lt_of_lt_of_le x0_l hz16
    replace g0_l := Nat.lt_of_lt_of_le g0_l hz16
    clear he
    go_wp2_with fail
    refine (heldLog_d Acg ncg ccg Awg nwg cwg (RC) ([]) _ _ 1 w16 (g.rd (by omega)) LR.out (by omega) _ (by first | rfl | simp)).mono ?_
    rintro e w17 ⟨rfl, hb⟩
    have he17 : Eff 0 0 w16 w17 := Eff.of hb
    have hz17 : w16.heap.size ≤ w17.heap.size := he17.size
    have b17 : Below W.heap.size W w17 := b16.trans (he17.below b16.size (by omega))
    replace hd := (hd.below (he17.below (B := W.heap.size) (by omega) (by omega)) (Nat.le_refl _))
    replace w0 := w0.keep he17 (by omega)
    replace g := g.keep he17 (by omega)
    replace aL_0 := he17.cell aL_0 (by simp only; omega)
    replace aL_1 := he17.cell aL_1 (by simp only; omega)
    replace aL_2 := he17.cell aL_2 (by simp only; omega)
    replace aL_3 := he17.cell aL_3 (by simp only; omega)
    replace z0_0 := he17.cell z0_0 (by simp only; omega)
    replace z0_1 := he17.cell z0_1 (by simp only; omega)
    replace z0_2 := he17.cell z0_2 (by simp only; omega)
    replace z0_3 := he17.cell z0_3 (by simp only; omega)
    replace x0_0 := he17.cell x0_0 (by simp only; omega)
    replace x0_1 := he17.cell x0_1 (by simp only; omega)
    replace x0_2 := he17.cell x0_2 (by simp only; omega)
    replace x0_3 := he17.cell x0_3 (by simp only; omega)
    replace g0_0 := he17.cell g0_0 (by simp only; omega)
    replace g0_1 := he17.cell g0_1 (by simp only; omega)
    replace g0_2 := he17.cell g0_2 (by simp only; omega)
    replace g0_3 := he17.cell g0_3 (by simp only; omega)
    replace aL_l := Nat.lt_of_lt_of_le aL_l hz17
    replace z0_l := Nat.lt_of_lt_of_le z0_l hz17
    replace x0_l := Nat.lt_of_lt_of_le x0_l hz17
    replace g0_l := Nat.lt_of_lt_of_le g0_l hz17
    clear hb
    clear x0_l
    clear x0_0
    clear x0_1
    clear x0_2
    clear x0_3
    go_wp2_with fail
    refine (toLog_d Ac nc cc Aw nw cw dc dw x y w17 (hd.more (by omega)) LB.out).mono ?_
    rintro e w18 ⟨Acv, ncv, ccv, Awv, nwv, cwv, qcv, qwv, rfl, v, hb⟩
    have he18 : Eff 0 0 w17 w18 := Eff.of hb
    have hz18 : w17.heap.size ≤ w18.heap.size := he18.size
    have b18 : Below W.heap.size W w18 := b17.trans (he18.below b17.size (by omega))
    replace hd := (hd.below (he18.below (B := W.heap.size) (by omega) (by omega)) (Nat.le_refl _))
    replace w0 := w0.keep he18 (by omega)
    replace g := g.keep he18 (by omega)
    replace aL_0 := he18.cell aL_0 (by simp only; omega)
    replace aL_1 := he18.cell aL_1 (by simp only; omega)
    replace aL_2 := he18.cell aL_2 (by simp only; omega)
    replace aL_3 := he18.cell aL_3 (by simp only; omega)
    replace z0_0 := he18.cell z0_0 (by simp only; omega)
    replace z0_1 := he18.cell z0_1 (by simp only; omega)
    replace z0_2 := he18.cell z0_2 (by simp only; omega)
    replace z0_3 := he18.cell z0_3 (by simp only; omega)
    replace g0_0 := he18.cell g0_0 (by simp only; omega)
    replace g0_1 := he18.cell g0_1 (by simp only; omega)
    replace g0_2 := he18.cell g0_2 (by simp only; omega)
    replace g0_3 := he18.cell g0_3 (by simp only; omega)
    replace aL_l := Nat.lt_of_lt_of_le aL_l hz18
    replace z0_l := Nat.lt_of_lt_of_le z0_l hz18
    replace g0_l := Nat.lt_of_lt_of_le g0_l hz18
    clear hb
    have QCv := Lib.hid qcv
    have QWv := Lib.hid qwv
    clear qcv qwv
    go_wp2_with fail
    refine (HI.out Acv ncv ccv Awv nwv cwv w18 (v.rd (by omega))).mono ?_
    rintro e w19 ⟨Ach, nch, cch, Awh, nwh, cwh, qch, qwh, rfl, h, hb⟩
    have he19 : Eff 0 0 w18 w19 := Eff.of hb
    have hz19 : w18.heap.size ≤ w19.heap.size := he19.size
    have b19 : Below W.heap.size W w19 := b18.trans (he19.below b18.size (by omega))
    replace hd := (hd.below (he19.below (B := W.heap.size) (by omega) (by omega)) (Nat.le_refl _))
    replace w0 := w0.keep he19 (by omega)
    replace g := g.keep he19 (by omega)
    replace v := v.keep he19 (by omega)
    replace aL_0 := he19.cell aL_0 (by simp only; omega)
    replace aL_1 := he19.cell aL_1 (by simp only; omega)
    replace aL_2 := he19.cell aL_2 (by simp only; omega)
    replace aL_3 := he19.cell aL_3 (by simp only; omega)
    replace z0_0 := he19.cell z0_0 (by simp only; omega)
    replace z0_1 := he19.cell z0_1 (by simp only; omega)
    replace z0_2 := he19.cell z0_2 (by simp only; omega)
    replace z0_3 := he19.cell z0_3 (by simp only; omega)
    replace g0_0 := he19.cell g0_0 (by simp only; omega)
    replace g0_1 := he19.cell g0_1 (by simp only; omega)
    replace g0_2 := he19.cell g0_2 (by simp only; omega)
    replace g0_3 := he19.cell g0_3 (by simp only; omega)
    replace aL_l := Nat.lt_of_lt_of_le aL_l hz19
    replace z0_l := Nat.lt_of_lt_of_le z0_l hz19
    replace g0_l := Nat.lt_of_lt_of_le g0_l hz19
    clear hb
    have QCh := Lib.hid qch
    have QWh := Lib.hid qwh
    clear qch qwh
    clear v
    go_wp2_with fail
    have he20 : Eff 0 0 w19 (w19.alloc (.cells #[.slice Ach nch cch, .slice Awh nwh cwh, .int .i64 X, .int .i64 Y] 60)) := Eff.alloc _ _
    have hs20 : (w19.alloc (.cells #[.slice Ach nch cch, .slice Awh nwh cwh, .int .i64 X, .int .i64 Y] 60)).heap.size = w19.heap.size + 1 := (by simp)
    have z2_0 : (w19.alloc (.cells #[.slice Ach nch cch, .slice Awh nwh cwh, .int .i64 X, .int .i64 Y] 60)).cell? ⟨w19.heap.size, 0, none⟩ = some (.slice Ach nch cch) := var_cell _ _ _ _ _ rfl
    have z2_1 : (w19.alloc (.cells #[.slice Ach nch cch, .slice Awh nwh cwh, .int .i64 X, .int .i64 Y] 60)).cell? ⟨w19.heap.size, 1, none⟩ = some (.slice Awh nwh cwh) := var_cell _ _ _ _ _ rfl
    have z2_2 : (w19.alloc (.cells #[.slice Ach nch cch, .slice Awh nwh cwh, .int .i64 X, .int .i64 Y] 60)).cell? ⟨w19.heap.size, 2, none⟩ = some (.int .i64 X) := var_cell _ _ _ _ _ rfl
    have z2_3 : (w19.alloc (.cells #[.slice Ach nch cch, .slice Awh nwh cwh, .int .i64 X, .int .i64 Y] 60)).cell? ⟨w19.heap.size, 3, none⟩ = some (.int .i64 Y) := var_cell _ _ _ _ _ rfl
    generalize (w19.alloc (.cells #[.slice Ach nch cch, .slice Awh nwh cwh, .int .i64 X, .int .i64 Y] 60)) = w20 at *
    have hz20 : w19.heap.size ≤ w20.heap.size := he20.size
    have b20 : Below W.heap.size W w20 := b19.trans (he20.below b19.size (by omega))
    replace hd := (hd.below (he20.below (B := W.heap.size) (by omega) (by omega)) (Nat.le_refl _))
    replace w0 := w0.keep he20 (by omega)
    replace g := g.keep he20 (by omega)
    replace h := h.keep he20 (by omega)
    replace aL_0 := he20.cell aL_0 (by simp only; omega)
    replace aL_1 := he20.cell aL_1 (by simp only; omega)
    replace aL_2 := he20.cell aL_2 (by simp only; omega)
    replace aL_3 := he20.cell aL_3 (by simp only; omega)
    replace z0_0 := he20.cell z0_0 (by simp only; omega)
    replace z0_1 := he20.cell z0_1 (by simp only; omega)
    replace z0_2 := he20.cell z0_2 (by simp only; omega)
    replace z0_3 := he20.cell z0_3 (by simp only; omega)
    replace g0_0 := he20.cell g0_0 (by simp only; omega)
    replace g0_1 := he20.cell g0_1 (by simp only; omega)
    replace g0_2 := he20.cell g0_2 (by simp only; omega)
    replace g0_3 := he20.cell g0_3 (by simp only; omega)
    replace aL_l := Nat.lt_of_lt_of_le aL_l hz20
    replace z0_l := Nat.lt_of_lt_of_le z0_l hz20
    replace g0_l := Nat.lt_of_lt_of_le g0_l hz20
    have z2_l : w19.heap.size < w20.heap.size := (by omega)
    refine (eqLog_d Ach nch cch Awh nwh cwh Acw0 ncw0 ccw0 Aww0 nww0 cww0 _ _ _ _ w20 (h.rd (by omega)) (w0.rd (by omega)) LR.out).mono ?_
    rintro e w21 ⟨rfl, hb⟩
    have he21 : Eff 0 0 w20 w21 := Eff.of hb
    have hz21 : w20.heap.size ≤ w21.heap.size := he21.size
    have b21 : Below W.heap.size W w21 := b20.trans (he21.below b20.size (by omega))
    replace hd := (hd.below (he21.below (B := W.heap.size) (by omega) (by omega)) (Nat.le_refl _))
    replace w0 := w0.keep he21 (by omega)
    replace g := g.keep he21 (by omega)
    replace h := h.keep he21 (by omega)
    replace aL_0 := he21.cell aL_0 (by simp only; omega)
    replace aL_1 := he21.cell aL_1 (by simp only; omega)
    replace aL_2 := he21.cell aL_2 (by simp only; omega)
    replace aL_3 := he21.cell aL_3 (by simp only; omega)
    replace z0_0 := he21.cell z0_0 (by simp only; omega)
    replace z0_1 := he21.cell z0_1 (by simp only; omega)
    replace z0_2 := he21.cell z0_2 (by simp only; omega)
    replace z0_3 := he21.cell z0_3 (by simp only; omega)
    replace g0_0 := he21.cell g0_0 (by simp only; omega)
    replace g0_1 := he21.cell g0_1 (by simp only; omega)
    replace g0_2 := he21.cell g0_2 (by simp only; omega)
    replace g0_3 := he21.cell g0_3 (by simp only; omega)
    replace z2_0 := he21.cell z2_0 (by simp only; omega)
    replace z2_1 := he21.cell z2_1 (by simp only; omega)
    replace z2_2 := he21.cell z2_2 (by simp only; omega)
    replace z2_3 := he21.cell z2_3 (by simp only; omega)
    replace aL_l := Nat.lt_of_lt_of_le aL_l hz21
    replace z0_l := Nat.lt_of_lt_of_le z0_l hz21
    replace g0_l := Nat.lt_of_lt_of_le g0_l hz21
    replace z2_l := Nat.lt_of_lt_of_le z2_l hz21
    clear hb
    go_wp2_with fail
    refine (heldLog_d Acg ncg ccg Awg nwg cwg (RC) ([]) _ _ 1 w21 (g.rd (by omega)) LR.out (by omega) _ (by first | rfl | simp)).mono ?_
    rintro e w22 ⟨rfl, hb⟩
    have he22 : Eff 0 0 w21 w22 := Eff.of hb
    have hz22 : w21.heap.size ≤ w22.heap.size := he22.size
    have b22 : Below W.heap.size W w22 := b21.trans (he22.below b21.size (by omega))
    replace hd := (hd.below (he22.below (B := W.heap.size) (by omega) (by omega)) (Nat.le_refl _))
    replace w0 := w0.keep he22 (by omega)
    replace g := g.keep he22 (by omega)
    replace h := h.keep he22 (by omega)
    replace aL_0 := he22.cell aL_0 (by simp only; omega)
    replace aL_1 := he22.cell aL_1 (by simp only; omega)
    replace aL_2 := he22.cell aL_2 (by simp only; omega)
    replace aL_3 := he22.cell aL_3 (by simp only; omega)
    replace z0_0 := he22.cell z0_0 (by simp only; omega)
    replace z0_1 := he22.cell z0_1 (by simp only; omega)
    replace z0_2 := he22.cell z0_2 (by simp only; omega)
    replace z0_3 := he22.cell z0_3 (by simp only; omega)
    replace g0_0 := he22.cell g0_0 (by simp only; omega)
    replace g0_1 := he22.cell g0_1 (by simp only; omega)
    replace g0_2 := he22.cell g0_2 (by simp only; omega)
    replace g0_3 := he22.cell g0_3 (by simp only; omega)
    replace z2_0 := he22.cell z2_0 (by simp only; omega)
    replace z2_1 := he22.cell z2_1 (by simp only; omega)
    replace z2_2 := he22.cell z2_2 (by simp only; omega)
    replace z2_3 := he22.cell z2_3 (by simp only; omega)
    replace aL_l := Nat.lt_of_lt_of_le aL_l hz22
    replace z0_l := Nat.lt_of_lt_of_le z0_l hz22
    replace g0_l := Nat.lt_of_lt_of_le g0_l hz22
    replace z2_l := Nat.lt_of_lt_of_le z2_l hz22
    clear hb
    go_wp2_with fail
    go_ret
    exact ⟨rfl, b22⟩
end Go.Proofs.Ytblenfhacaecmaa
