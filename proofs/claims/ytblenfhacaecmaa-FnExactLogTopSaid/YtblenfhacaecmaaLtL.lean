/- The walk of the law on LogTop. -/
import Derived.Test.YtblenfhacaecmaaLts
import Derived.Deep.RegionHeld3
namespace Go.Proofs.Ytblenfhacaecmaa
open Go.RowKit
set_option maxHeartbeats 4000000 in
set_option maxRecDepth 100000 in
theorem walk_FnExactLogTop (Ac : Option Addr) (nc cc : Nat) (Aw : Option Addr) (nw cw : Nat) (dc : List (List UInt8)) (dw : List (Int × List UInt8)) (W : World) (hca : nc ≤ cc ∧ cc ≤ maxLen) (hcb : nw ≤ cw ∧ cw ≤ maxLen) (hd : RdDk W W.heap.size Ac nc Aw nw dc dw) :
    Calls Try.prog 7 #[.agg #[.slice Ac nc cc, .slice Aw nw cw]] W fun e w' => e = .returned (.bool true) ∧ Below W.heap.size W w' := by
  unfold maxLen at hca hcb
  have hlen := hd.len
  have hna : nc ≤ 9223372036854775807 := by omega
  have hnb : nw ≤ 9223372036854775807 := by omega
  clear hca hcb
  by_cases hsz : 1048576 < totD dc dw
  · clear hlen
    go_enter Try.func7, Try.ntmps7
    go_wp2_with (go_at_call 11; refine (szDisk_d Ac nc cc Aw nw cw dc dw _ ((hd.below ((Below.refl _ _).alloc (Nat.le_refl _) _) (Nat.le_refl _)).more (by simp)) hna hnb).mono ?_; rintro e w1 ⟨rfl, hb1⟩; rw [if_pos (by omega)])
    go_ret
    exact ⟨rfl, ((Below.refl _ _).alloc (Nat.le_refl _) _).trans (hb1.mono (by simp))⟩
  · have hlb := lenB_sz (dc := dc) (dw := dw) (by omega)
    have hnc : nc ≤ 1048576 := by have := hlb.1; omega
    have hnw : nw ≤ 1048576 := by have := hlb.2.1; omega
    have LB := Lib.hid hlb
    clear hlb hlen hna hnb
    obtain ⟨R, hR⟩ : ∃ R : Int, (if dkOk dc dw then ((topN dc dw dc.length : Nat) : Int) else 0) = R := ⟨_, rfl⟩
    have Hspec : ∀ (Ac : Option Addr) (nc cc : Nat) (Aw : Option Addr) (nw cw : Nat) (W : World), RdDk W W.heap.size Ac nc Aw nw dc dw → Calls Try.prog 30 #[.agg #[.slice Ac nc cc, .slice Aw nw cw]] W fun e w' => e = .returned (.int .i64 R) ∧ Below W.heap.size W w' := fun Ac nc cc Aw nw cw W h => by
      obtain rfl := h.len.1
      have := spec_LogTop_d Ac _ cc Aw nw cw dc dw W h LB.out
      rw [hR] at this
      exact this
    have Himpl : ∀ (Ac : Option Addr) (nc cc : Nat) (Aw : Option Addr) (nw cw : Nat) (W : World), RdDk W W.heap.size Ac nc Aw nw dc dw → Calls Try.prog 31 #[.agg #[.slice Ac nc cc, .slice Aw nw cw]] W fun e w' => e = .returned (.int .i64 R) ∧ Below W.heap.size W w' := fun Ac nc cc Aw nw cw W h => by
      obtain rfl := h.len.1
      have := impl_LogTop_d Ac _ cc Aw nw cw dc dw W h LB.out
      rw [hR] at this
      exact this
    replace Hspec := Lib.hid Hspec
    replace Himpl := Lib.hid Himpl
    have hbb : (R != R) = false := by simp
    clear hR
    go_enter Try.func7, Try.ntmps7
    go_wp2_with fail
    have he1 : Eff 0 0 W (W.alloc (.cells #[.slice Ac nc cc, .slice Aw nw cw] 25)) := Eff.alloc _ _
    have hs1 : (W.alloc (.cells #[.slice Ac nc cc, .slice Aw nw cw] 25)).heap.size = W.heap.size + 1 := (by simp)
    have aD_0 : (W.alloc (.cells #[.slice Ac nc cc, .slice Aw nw cw] 25)).cell? ⟨W.heap.size, 0, none⟩ = some (.slice Ac nc cc) := var_cell _ _ _ _ _ rfl
    have aD_1 : (W.alloc (.cells #[.slice Ac nc cc, .slice Aw nw cw] 25)).cell? ⟨W.heap.size, 1, none⟩ = some (.slice Aw nw cw) := var_cell _ _ _ _ _ rfl
    generalize (W.alloc (.cells #[.slice Ac nc cc, .slice Aw nw cw] 25)) = w1 at *
    have hz1 : W.heap.size ≤ w1.heap.size := he1.size
    have b1 : Below W.heap.size W w1 := he1.below (Nat.le_refl _) (by omega)
    replace hd := (hd.below (he1.below (B := W.heap.size) (by omega) (by omega)) (Nat.le_refl _))
    have aD_l : W.heap.size < w1.heap.size := (by omega)
    refine (szDisk_d Ac nc cc Aw nw cw dc dw w1 (hd.more (by omega)) (by omega) (by omega)).mono ?_
    rintro e w2 ⟨rfl, hb⟩
    have he2 : Eff 0 0 w1 w2 := Eff.of hb
    have hz2 : w1.heap.size ≤ w2.heap.size := he2.size
    have b2 : Below W.heap.size W w2 := b1.trans (he2.below b1.size (by omega))
    replace hd := (hd.below (he2.below (B := W.heap.size) (by omega) (by omega)) (Nat.le_refl _))
    replace aD_0 := he2.cell aD_0 (by simp only; omega)
    replace aD_1 := he2.cell aD_1 (by simp only; omega)
    replace aD_l := Nat.lt_of_lt_of_le aD_l hz2
    clear hb
    rw [if_neg (by omega)]
    go_wp2_with fail
    refine (toDisk_d Ac nc cc Aw nw cw dc dw w2 (hd.more (by omega)) LB.out).mono ?_
    rintro e w3 ⟨Act, nct, cct, Awt, nwt, cwt, qct, qwt, rfl, t, hb⟩
    have he3 : Eff 0 0 w2 w3 := Eff.of hb
    have hz3 : w2.heap.size ≤ w3.heap.size := he3.size
    have b3 : Below W.heap.size W w3 := b2.trans (he3.below b2.size (by omega))
    replace hd := (hd.below (he3.below (B := W.heap.size) (by omega) (by omega)) (Nat.le_refl _))
    replace aD_0 := he3.cell aD_0 (by simp only; omega)
    replace aD_1 := he3.cell aD_1 (by simp only; omega)
    replace aD_l := Nat.lt_of_lt_of_le aD_l hz3
    clear hb
    have QCt := Lib.hid qct
    have QWt := Lib.hid qwt
    clear qct qwt
    go_wp2_with fail
    refine (Hspec.out Act nct cct Awt nwt cwt w3 (t.rd (by omega))).mono ?_
    rintro e w4 ⟨rfl, hb⟩
    have he4 : Eff 0 0 w3 w4 := Eff.of hb
    have hz4 : w3.heap.size ≤ w4.heap.size := he4.size
    have b4 : Below W.heap.size W w4 := b3.trans (he4.below b3.size (by omega))
    replace hd := (hd.below (he4.below (B := W.heap.size) (by omega) (by omega)) (Nat.le_refl _))
    replace t := t.keep he4 (by omega)
    replace aD_0 := he4.cell aD_0 (by simp only; omega)
    replace aD_1 := he4.cell aD_1 (by simp only; omega)
    replace aD_l := Nat.lt_of_lt_of_le aD_l hz4
    clear hb
    clear t
    go_wp2_with fail
    refine (toDisk_d Ac nc cc Aw nw cw dc dw w4 (hd.more (by omega)) LB.out).mono ?_
    rintro e w5 ⟨Acx, ncx, ccx, Awx, nwx, cwx, qcx, qwx, rfl, x, hb⟩
    have he5 : Eff 0 0 w4 w5 := Eff.of hb
    have hz5 : w4.heap.size ≤ w5.heap.size := he5.size
    have b5 : Below W.heap.size W w5 := b4.trans (he5.below b4.size (by omega))
    replace hd := (hd.below (he5.below (B := W.heap.size) (by omega) (by omega)) (Nat.le_refl _))
    replace aD_0 := he5.cell aD_0 (by simp only; omega)
    replace aD_1 := he5.cell aD_1 (by simp only; omega)
    replace aD_l := Nat.lt_of_lt_of_le aD_l hz5
    clear hb
    have QCx := Lib.hid qcx
    have QWx := Lib.hid qwx
    clear qcx qwx
    go_wp2_with fail
    have he6 : Eff 0 0 w5 (w5.alloc (.cells #[.slice Acx ncx ccx, .slice Awx nwx cwx] 33)) := Eff.alloc _ _
    have hs6 : (w5.alloc (.cells #[.slice Acx ncx ccx, .slice Awx nwx cwx] 33)).heap.size = w5.heap.size + 1 := (by simp)
    have x0_0 : (w5.alloc (.cells #[.slice Acx ncx ccx, .slice Awx nwx cwx] 33)).cell? ⟨w5.heap.size, 0, none⟩ = some (.slice Acx ncx ccx) := var_cell _ _ _ _ _ rfl
    have x0_1 : (w5.alloc (.cells #[.slice Acx ncx ccx, .slice Awx nwx cwx] 33)).cell? ⟨w5.heap.size, 1, none⟩ = some (.slice Awx nwx cwx) := var_cell _ _ _ _ _ rfl
    generalize (w5.alloc (.cells #[.slice Acx ncx ccx, .slice Awx nwx cwx] 33)) = w6 at *
    have hz6 : w5.heap.size ≤ w6.heap.size := he6.size
    have b6 : Below W.heap.size W w6 := b5.trans (he6.below b5.size (by omega))
    replace hd := (hd.below (he6.below (B := W.heap.size) (by omega) (by omega)) (Nat.le_refl _))
    replace x := x.keep he6 (by omega)
    replace aD_0 := he6.cell aD_0 (by simp only; omega)
    replace aD_1 := he6.cell aD_1 (by simp only; omega)
    replace aD_l := Nat.lt_of_lt_of_le aD_l hz6
    have x0_l : w5.heap.size < w6.heap.size := (by omega)
    refine (Himpl.out Acx ncx ccx Awx nwx cwx w6 (x.rd (by omega))).mono ?_
    rintro e w7 ⟨rfl, hb⟩
    have he7 : Eff 0 0 w6 w7 := Eff.of hb
    have hz7 : w6.heap.size ≤ w7.heap.size := he7.size
    have b7 : Below W.heap.size W w7 := b6.trans (he7.below b6.size (by omega))
    replace hd := (hd.below (he7.below (B := W.heap.size) (by omega) (by omega)) (Nat.le_refl _))
    replace x := x.keep he7 (by omega)
    replace aD_0 := he7.cell aD_0 (by simp only; omega)
    replace aD_1 := he7.cell aD_1 (by simp only; omega)
    replace x0_0 := he7.cell x0_0 (by simp only; omega)
    replace x0_1 := he7.cell x0_1 (by simp only; omega)
    replace aD_l := Nat.lt_of_lt_of_le aD_l hz7
    replace x0_l := Nat.lt_of_lt_of_le x0_l hz7
    clear hb
    go_wp2_with fail
    have he8 : Eff 0 0 w7 w7.drew := (Eff.refl _ _ _).drew
    have hz8 : w7.heap.size ≤ w7.drew.heap.size := he8.size
    have b8 : Below W.heap.size W w7.drew := b7.trans (he8.below b7.size (by omega))
    replace hd := (hd.below (he8.below (B := W.heap.size) (by omega) (by omega)) (Nat.le_refl _))
    replace x := x.keep he8 (by omega)
    replace aD_0 := he8.cell aD_0 (by simp only; omega)
    replace aD_1 := he8.cell aD_1 (by simp only; omega)
    replace x0_0 := he8.cell x0_0 (by simp only; omega)
    replace x0_1 := he8.cell x0_1 (by simp only; omega)
    replace aD_l := Nat.lt_of_lt_of_le aD_l hz8
    replace x0_l := Nat.lt_of_lt_of_le x0_l hz8
    go_region_held3 (fun w' => w'.cell? ⟨W.heap.size, 0, none⟩ = some (.slice Ac nc cc) ∧ w'.cell? ⟨W.heap.size, 1, none⟩ = some (.slice Aw nw cw) ∧ w'.cell? ⟨w5.heap.size, 0, none⟩ = some (.slice Acx ncx ccx) ∧ w'.cell? ⟨w5.heap.size, 1, none⟩ = some (.slice Awx nwx cwx)) ((go_split_ands; (repeat' apply And.intro) <;> (first | assumption))) (first | (go_at_call 13; refine (toDisk_d Ac nc cc Aw nw cw dc dw w7.drew (hd.more (by omega)) LB.out).mono ?_; rintro e w9 ⟨Acy, ncy, ccy, Awy, nwy, cwy, qcy, qwy, rfl, y, hb⟩; have he9 : Eff 0 0 w7.drew w9 := Eff.of hb; have hz9 : w7.drew.heap.size ≤ w9.heap.size := he9.size; have b9 : Below W.heap.size W w9 := b8.trans (he9.below b8.size (by omega)); replace hd := (hd.below (he9.below (B := W.heap.size) (by omega) (by omega)) (Nat.le_refl _)); replace x := x.keep he9 (by omega); replace aD_0 := he9.cell aD_0 (by simp only; omega); replace aD_1 := he9.cell aD_1 (by simp only; omega); replace x0_0 := he9.cell x0_0 (by simp only; omega); replace x0_1 := he9.cell x0_1 (by simp only; omega); replace aD_l := Nat.lt_of_lt_of_le aD_l hz9; replace x0_l := Nat.lt_of_lt_of_le x0_l hz9; clear hb; have QCy := Lib.hid qcy; have QWy := Lib.hid qwy; clear qcy qwy) | (go_at_call 16; refine (eqDisk_d Acx ncx ccx Awx nwx cwx Acy ncy ccy Awy nwy cwy _ _ w9 (x.rd (by omega)) (y.rd (by omega)) LB.out).mono ?_; rintro e w10 ⟨rfl, hb⟩; have he10 : Eff 0 0 w9 w10 := Eff.of hb; have hz10 : w9.heap.size ≤ w10.heap.size := he10.size; have b10 : Below W.heap.size W w10 := b9.trans (he10.below b9.size (by omega)); replace hd := (hd.below (he10.below (B := W.heap.size) (by omega) (by omega)) (Nat.le_refl _)); replace x := x.keep he10 (by omega); replace y := y.keep he10 (by omega); replace aD_0 := he10.cell aD_0 (by simp only; omega); replace aD_1 := he10.cell aD_1 (by simp only; omega); replace x0_0 := he10.cell x0_0 (by simp only; omega); replace x0_1 := he10.cell x0_1 (by simp only; omega); replace aD_l := Nat.lt_of_lt_of_le aD_l hz10; replace x0_l := Nat.lt_of_lt_of_le x0_l hz10; clear hb))
    go_wp2_with fail
    go_ret
    exact ⟨rfl, b10⟩
end Go.Proofs.Ytblenfhacaecmaa
