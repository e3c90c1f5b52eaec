/- The walk of the law on LogRead. -/
import Derived.Test.YtblenfhacaecmaaLrp
import Derived.Test.YtblenfhacaecmaaLrs
import Derived.Deep.RegionHeld3
namespace Go.Proofs.Ytblenfhacaecmaa
open Go.RowKit
theorem sc_le {es : List Sc} {ns : List Nat} {B : Nat} (h : es.map Sc.n = ns) (hb : ∀ m ∈ ns, m ≤ B) : ∀ x ∈ es, x.n ≤ B := fun _ hx => hb _ (h ▸ List.mem_map_of_mem hx)
/-- The sectors that are left, in terms of their data. -/
def MadeLrD (N : Nat) (NI : Int) (RC : List (Int × Int × List UInt8)) (ns : List Nat) (w : World) (e : Ending) (w' : World) : Prop :=
  ∃ A c es, e = .returned (.tuple #[.slice A N c, .int .i64 NI]) ∧ es.map Sc.d = RC ∧ es.map Sc.n = ns ∧ OwnSector w' w.heap.size w'.heap.size A N c es ∧ Below w.heap.size w w'
theorem MadeLr.d {N : Nat} {NI : Int} {RC : List (Int × Int × List UInt8)} {ns : List Nat} {w w' : World} {e : Ending} (h : MadeLr RC w e w') (hN : RC.length = N) (hNI : (N : Int) = NI) (hns : RC.map (fun x => x.2.2.length) = ns) : MadeLrD N NI RC ns w e w' := by
  obtain ⟨A, n, c, es, rfl, hd, ho, hb⟩ := h
  have hl := ho.len Sc.hf (by omega)
  have e1 : n = N := by rw [← hN, ← hd, List.length_map, hl]
  subst e1
  subst hNI
  refine ⟨A, c, es, rfl, hd, ?_, ho, hb⟩
  rw [← hns, ← hd, List.map_map]
  apply List.map_congr_left
  intro x hx
  have := ho.inn.inn x hx
  exact (OwnB.len this).symm
theorem markSectorS_z (A : Option Addr) (n c : Nat) (es : List Sc) (ns : List Nat) (lo hi k0 : Nat) (w : World) (ho : OwnSector w lo hi A n c es) (hns : es.map Sc.n = ns) (hk0 : k0 + totS 2 1 ns ≤ 4611686018427387904) (hn : n ≤ 1099511627776) (hnb : ∀ m ∈ ns, m ≤ 1099511627776) (z : Int) (hz : z = (k0 : Int)) :
    Calls Try.prog 46 #[.slice A n c, .int .i64 z] w (MarkedSectorS A n c k0 lo hi ns w) := by subst hz; exact markSectorS_any A n c es ns lo hi k0 w ho hns hk0 hn hnb
theorem heldSectorS_z (A : Option Addr) (n c : Nat) (es : List Sc) (ns : List Nat) (k0 : Nat) (w : World) (hr : RdSector w w.heap.size A n es) (hd : es.map Sc.d = marksSector k0 ns) (hns : es.map Sc.n = ns) (hk0 : k0 + totS 2 1 ns ≤ 4611686018427387904) (hn : n ≤ 1099511627776) (hnb : ∀ m ∈ ns, m ≤ 1099511627776) (z : Int) (hz : z = (k0 : Int)) :
    Calls Try.prog 47 #[.slice A n c, .int .i64 z] w fun e w' => e = .returned (.int .i64 ((k0 + totS 2 1 ns : Nat) : Int)) ∧ Below w.heap.size w w' := by subst hz; exact heldSectorS_yes A n c es ns k0 w hr hd hns hk0 hn hnb
set_option maxHeartbeats 4000000 in
set_option maxRecDepth 100000 in
theorem walk_FnExactLogRead (Ac : Option Addr) (nc cc : Nat) (Aw : Option Addr) (nw cw : Nat) (dc : List (List UInt8)) (dw : List (Int × List UInt8)) (W : World) (hca : nc ≤ cc ∧ cc ≤ maxLen) (hcb : nw ≤ cw ∧ cw ≤ maxLen) (hd : RdDk W W.heap.size Ac nc Aw nw dc dw) :
    Calls Try.prog 10 #[.agg #[.slice Ac nc cc, .slice Aw nw cw]] W fun e w' => e = .returned (.bool true) ∧ Below W.heap.size W w' := by
  unfold maxLen at hca hcb
  have hlen := hd.len
  have hna : nc ≤ 9223372036854775807 := by omega
  have hnb : nw ≤ 9223372036854775807 := by omega
  clear hca hcb
  by_cases hsz : 1048576 < totD dc dw
  · clear hlen
    go_enter Try.func10, Try.ntmps10
    go_wp2_with (go_at_call 11; refine (szDisk_d Ac nc cc Aw nw cw dc dw _ ((hd.below ((Below.refl _ _).alloc (Nat.le_refl _) _) (Nat.le_refl _)).more (by simp)) hna hnb).mono ?_; rintro e w1 ⟨rfl, hb1⟩; rw [if_pos (by omega)])
    go_ret
    exact ⟨rfl, ((Below.refl _ _).alloc (Nat.le_refl _) _).trans (hb1.mono (by simp))⟩
  · have hlb := lenB_sz (dc := dc) (dw := dw) (by omega)
    have hnc : nc ≤ 1048576 := by have := hlb.1; omega
    have hnw : nw ≤ 1048576 := by have := hlb.2.1; omega
    have LB := Lib.hid hlb
    clear hlb hlen hna hnb
    have hb0 : ∀ x ∈ lgR dc dw, x.2.2.length ≤ 255 := fun x hx => by
      unfold lgR at hx
      split at hx
      · exact logR_body hx
      · simp at hx
    have hl0 : (lgR dc dw).length ≤ 1048576 := by
      unfold lgR
      split
      · exact Nat.le_trans (logR_len _ _ _ _) LB.out.1
      · simp
    obtain ⟨RC, hR⟩ : ∃ R, lgR dc dw = R := ⟨_, rfl⟩
    rw [hR] at hb0 hl0
    obtain ⟨N, hN⟩ : ∃ N, RC.length = N := ⟨_, rfl⟩
    obtain ⟨NI, hNI⟩ : ∃ z : Int, (N : Int) = z := ⟨_, rfl⟩
    obtain ⟨ns, hns⟩ : ∃ ns, RC.map (fun x => x.2.2.length) = ns := ⟨_, rfl⟩
    rw [hN] at hl0
    have hnb : ∀ m ∈ ns, m ≤ 255 := fun m hm => by
      rw [← hns] at hm
      obtain ⟨x, hx, rfl⟩ := List.mem_map.1 hm
      exact hb0 x hx
    have htot : 1 + totS 2 1 ns ≤ 4611686018427387904 := by
      have := totS_bd (sc := 2) (s := 1) hnb
      have e : ns.length = N := by rw [← hns, List.length_map, hN]
      rw [e] at this
      omega
    have Hspec : ∀ (Ac : Option Addr) (nc cc : Nat) (Aw : Option Addr) (nw cw : Nat) (W : World), RdDk W W.heap.size Ac nc Aw nw dc dw → Calls Try.prog 43 #[.agg #[.slice Ac nc cc, .slice Aw nw cw]] W (MadeLrD N NI RC ns W) := fun Ac nc cc Aw nw cw W h => by
      have := spec_LogRead_d Ac nc cc Aw nw cw dc dw W h LB.out
      rw [hR] at this
      exact this.mono fun e w' h => h.d hN hNI hns
    have Himpl : ∀ (Ac : Option Addr) (nc cc : Nat) (Aw : Option Addr) (nw cw : Nat) (W : World), RdDk W W.heap.size Ac nc Aw nw dc dw → Calls Try.prog 44 #[.agg #[.slice Ac nc cc, .slice Aw nw cw]] W (MadeLrD N NI RC ns W) := fun Ac nc cc Aw nw cw W h => by
      have := impl_LogRead_d Ac nc cc Aw nw cw dc dw W h LB.out
      rw [hR] at this
      exact this.mono fun e w' h => h.d hN hNI hns
    replace Hspec := Lib.hid Hspec
    replace Himpl := Lib.hid Himpl
    obtain ⟨MM, hMM⟩ : ∃ M : Int, ((1 + totS 2 1 ns : Nat) : Int) = M := ⟨_, rfl⟩
    have hm0 : ¬ MM < 0 := by omega
    have hmm : (MM != MM) = false := by simp
    have hbb : (NI != NI) = false := by simp
    have hmk : mkD dc dw ≤ 1048576 := Nat.le_trans mkD_le (by omega)
    have HMM := Lib.hid hMM
    have HNB := Lib.hid (fun m hm => Nat.le_trans (hnb m hm) (by omega : 255 ≤ 1099511627776))
    have HTOT := Lib.hid htot
    clear hR hN hNI hns hb0 hnb hMM htot
    go_enter Try.func10, Try.ntmps10
    go_wp2_with fail
    have he1 : Eff 0 0 W (W.alloc (.cells #[.slice Ac nc cc, .slice Aw nw cw] 25)) := Eff.alloc _ _
    have hs1 : (W.alloc (.cells #[.slice Ac nc cc, .slice Aw nw cw] 25)).heap.size = W.heap.size + 1 := (by simp)
    have aD_0 : (W.alloc (.cells #[.slice Ac nc cc, .slice Aw nw cw] 25)).cell? ⟨W.heap.size, 0, none⟩ = some (.slice Ac nc cc) := var_cell _ _ _ _ _ rfl
    have aD_1 : (W.alloc (.cells #[.slice Ac nc cc, .slice Aw nw cw] 25)).cell? ⟨W.heap.size, 1, none⟩ = some (.slice Aw nw cw) := var_cell _ _ _ _ _ rfl
    generalize (W.alloc (.cells #[.slice Ac nc cc, .slice Aw nw cw] 25)) = w1 at *
    have hz1 : W.heap.size ≤ w1.heap.size := he1.size
    have b1 : Below W.heap.size W w1 := he1.below (Nat.le_refl _) (by omega)
    replace hd := (hd.below (he1.below (B := W.heap.size) (by omega) (by omega)) (Nat.le_refl _))
    have aD_l : W.heap.size < w1.heap.size := (by omega)
    refine (szDisk_d Ac nc cc Aw nw cw dc dw w1 (hd.more (by omega)) (by omega) (by omega)).mono ?_
    rintro e w2 ⟨rfl, hb⟩
    have he2 : Eff 0 0 w1 w2 := Eff.of hb
    have hz2 : w1.heap.size ≤ w2.heap.size := he2.size
    have b2 : Below W.heap.size W w2 := b1.trans (he2.below b1.size (by omega))
    replace hd := (hd.below (he2.below (B := W.heap.size) (by omega) (by omega)) (Nat.le_refl _))
    replace aD_0 := he2.cell aD_0 (by simp only; omega)
    replace aD_1 := he2.cell aD_1 (by simp only; omega)
    replace aD_l := Nat.lt_of_lt_of_le aD_l hz2
    clear hb
    rw [if_neg (by omega)]
    go_wp2_with fail
    refine (toDisk_d Ac nc cc Aw nw cw dc dw w2 (hd.more (by omega)) LB.out).mono ?_
    rintro e w3 ⟨Act, nct, cct, Awt, nwt, cwt, qct, qwt, rfl, t, hb⟩
    have he3 : Eff 0 0 w2 w3 := Eff.of hb
    have hz3 : w2.heap.size ≤ w3.heap.size := he3.size
    have b3 : Below W.heap.size W w3 := b2.trans (he3.below b2.size (by omega))
    replace hd := (hd.below (he3.below (B := W.heap.size) (by omega) (by omega)) (Nat.le_refl _))
    replace aD_0 := he3.cell aD_0 (by simp only; omega)
    replace aD_1 := he3.cell aD_1 (by simp only; omega)
    replace aD_l := Nat.lt_of_lt_of_le aD_l hz3
    clear hb
    have QCt := Lib.hid qct
    have QWt := Lib.hid qwt
    clear qct qwt
    go_wp2_with fail
    refine (Hspec.out Act nct cct Awt nwt cwt w3 (t.rd (by omega))).mono ?_
    rintro e w4 ⟨Aw0, cw0, ew0, rfl, qdw0, qnw0, w0, hb⟩
    have he4 : Eff 0 0 w3 w4 := Eff.of hb
    have hz4 : w3.heap.size ≤ w4.heap.size := he4.size
    have b4 : Below W.heap.size W w4 := b3.trans (he4.below b3.size (by omega))
    replace hd := (hd.below (he4.below (B := W.heap.size) (by omega) (by omega)) (Nat.le_refl _))
    replace t := t.keep he4 (by omega)
    replace aD_0 := he4.cell aD_0 (by simp only; omega)
    replace aD_1 := he4.cell aD_1 (by simp only; omega)
    replace aD_l := Nat.lt_of_lt_of_le aD_l hz4
    clear hb
    have QDw0 := Lib.hid qdw0
    have QNw0 := Lib.hid qnw0
    clear qdw0 qnw0
    clear t
    go_wp2_with fail
    refine (toDisk_d Ac nc cc Aw nw cw dc dw w4 (hd.more (by omega)) LB.out).mono ?_
    rintro e w5 ⟨Acx, ncx, ccx, Awx, nwx, cwx, qcx, qwx, rfl, x, hb⟩
    have he5 : Eff 0 0 w4 w5 := Eff.of hb
    have hz5 : w4.heap.size ≤ w5.heap.size := he5.size
    have b5 : Below W.heap.size W w5 := b4.trans (he5.below b4.size (by omega))
    replace hd := (hd.below (he5.below (B := W.heap.size) (by omega) (by omega)) (Nat.le_refl _))
    replace w0 := w0.keep he5 (by omega)
    replace aD_0 := he5.cell aD_0 (by simp only; omega)
    replace aD_1 := he5.cell aD_1 (by simp only; omega)
    replace aD_l := Nat.lt_of_lt_of_le aD_l hz5
    clear hb
    have QCx := Lib.hid qcx
    have QWx := Lib.hid qwx
    clear qcx qwx
    go_wp2_with fail
    have he6 : Eff 0 0 w5 (w5.alloc (.cells #[.slice Acx ncx ccx, .slice Awx nwx cwx] 33)) := Eff.alloc _ _
    have hs6 : (w5.alloc (.cells #[.slice Acx ncx ccx, .slice Awx nwx cwx] 33)).heap.size = w5.heap.size + 1 := (by simp)
    have x0_0 : (w5.alloc (.cells #[.slice Acx ncx ccx, .slice Awx nwx cwx] 33)).cell? ⟨w5.heap.size, 0, none⟩ = some (.slice Acx ncx ccx) := var_cell _ _ _ _ _ rfl
    have x0_1 : (w5.alloc (.cells #[.slice Acx ncx ccx, .slice Awx nwx cwx] 33)).cell? ⟨w5.heap.size, 1, none⟩ = some (.slice Awx nwx cwx) := var_cell _ _ _ _ _ rfl
    generalize (w5.alloc (.cells #[.slice Acx ncx ccx, .slice Awx nwx cwx] 33)) = w6 at *
    have hz6 : w5.heap.size ≤ w6.heap.size := he6.size
    have b6 : Below W.heap.size W w6 := b5.trans (he6.below b5.size (by omega))
    replace hd := (hd.below (he6.below (B := W.heap.size) (by omega) (by omega)) (Nat.le_refl _))
    replace w0 := w0.keep he6 (by omega)
    replace x := x.keep he6 (by omega)
    replace aD_0 := he6.cell aD_0 (by simp only; omega)
    replace aD_1 := he6.cell aD_1 (by simp only; omega)
    replace aD_l := Nat.lt_of_lt_of_le aD_l hz6
    have x0_l : w5.heap.size < w6.heap.size := (by omega)
    refine (Himpl.out Acx ncx ccx Awx nwx cwx w6 (x.rd (by omega))).mono ?_
    rintro e w7 ⟨Ag, cg, eg, rfl, qdg, qng, g, hb⟩
    have he7 : Eff 0 0 w6 w7 := Eff.of hb
    have hz7 : w6.heap.size ≤ w7.heap.size := he7.size
    have b7 : Below W.heap.size W w7 := b6.trans (he7.below b6.size (by omega))
    replace hd := (hd.below (he7.below (B := W.heap.size) (by omega) (by omega)) (Nat.le_refl _))
    replace w0 := w0.keep he7 (by omega)
    replace x := x.keep he7 (by omega)
    replace aD_0 := he7.cell aD_0 (by simp only; omega)
    replace aD_1 := he7.cell aD_1 (by simp only; omega)
    replace x0_0 := he7.cell x0_0 (by simp only; omega)
    replace x0_1 := he7.cell x0_1 (by simp only; omega)
    replace aD_l := Nat.lt_of_lt_of_le aD_l hz7
    replace x0_l := Nat.lt_of_lt_of_le x0_l hz7
    clear hb
    have QDg := Lib.hid qdg
    have QNg := Lib.hid qng
    clear qdg qng
    go_wp2_with fail
    refine (eqSectorS_same Ag N cg eg Aw0 N cw0 ew0 w7 (g.rd (by omega)) (w0.rd (by omega)) (QDg.out.trans QDw0.out.symm) (by omega) (sc_le QNg.out HNB.out) (sc_le QNw0.out HNB.out)).mono ?_
    rintro e w8 ⟨rfl, hb⟩
    have he8 : Eff 0 0 w7 w8 := Eff.of hb
    have hz8 : w7.heap.size ≤ w8.heap.size := he8.size
    have b8 : Below W.heap.size W w8 := b7.trans (he8.below b7.size (by omega))
    replace hd := (hd.below (he8.below (B := W.heap.size) (by omega) (by omega)) (Nat.le_refl _))
    replace w0 := w0.keep he8 (by omega)
    replace x := x.keep he8 (by omega)
    replace g := g.keep he8 (by omega)
    replace aD_0 := he8.cell aD_0 (by simp only; omega)
    replace aD_1 := he8.cell aD_1 (by simp only; omega)
    replace x0_0 := he8.cell x0_0 (by simp only; omega)
    replace x0_1 := he8.cell x0_1 (by simp only; omega)
    replace aD_l := Nat.lt_of_lt_of_le aD_l hz8
    replace x0_l := Nat.lt_of_lt_of_le x0_l hz8
    clear hb
    go_wp2_with fail
    have he9 : Eff 0 0 w8 w8.drew := (Eff.refl _ _ _).drew
    have hz9 : w8.heap.size ≤ w8.drew.heap.size := he9.size
    have b9 : Below W.heap.size W w8.drew := b8.trans (he9.below b8.size (by omega))
    replace hd := (hd.below (he9.below (B := W.heap.size) (by omega) (by omega)) (Nat.le_refl _))
    replace w0 := w0.keep he9 (by omega)
    replace x := x.keep he9 (by omega)
    replace g := g.keep he9 (by omega)
    replace aD_0 := he9.cell aD_0 (by simp only; omega)
    replace aD_1 := he9.cell aD_1 (by simp only; omega)
    replace x0_0 := he9.cell x0_0 (by simp only; omega)
    replace x0_1 := he9.cell x0_1 (by simp only; omega)
    replace aD_l := Nat.lt_of_lt_of_le aD_l hz9
    replace x0_l := Nat.lt_of_lt_of_le x0_l hz9
    go_region_held3 (fun w' => w'.cell? ⟨W.heap.size, 0, none⟩ = some (.slice Ac nc cc) ∧ w'.cell? ⟨W.heap.size, 1, none⟩ = some (.slice Aw nw cw) ∧ w'.cell? ⟨w5.heap.size, 0, none⟩ = some (.slice Acx ncx ccx) ∧ w'.cell? ⟨w5.heap.size, 1, none⟩ = some (.slice Awx nwx cwx)) ((go_split_ands; (repeat' apply And.intro) <;> (first | assumption))) (first | (go_at_call 13; refine (toDisk_d Ac nc cc Aw nw cw dc dw w8.drew (hd.more (by omega)) LB.out).mono ?_; rintro e w10 ⟨Acy, ncy, ccy, Awy, nwy, cwy, qcy, qwy, rfl, y, hb⟩; have he10 : Eff 0 0 w8.drew w10 := Eff.of hb; have hz10 : w8.drew.heap.size ≤ w10.heap.size := he10.size; have b10 : Below W.heap.size W w10 := b9.trans (he10.below b9.size (by omega)); replace hd := (hd.below (he10.below (B := W.heap.size) (by omega) (by omega)) (Nat.le_refl _)); replace w0 := w0.keep he10 (by omega); replace x := x.keep he10 (by omega); replace g := g.keep he10 (by omega); replace aD_0 := he10.cell aD_0 (by simp only; omega); replace aD_1 := he10.cell aD_1 (by simp only; omega); replace x0_0 := he10.cell x0_0 (by simp only; omega); replace x0_1 := he10.cell x0_1 (by simp only; omega); replace aD_l := Nat.lt_of_lt_of_le aD_l hz10; replace x0_l := Nat.lt_of_lt_of_le x0_l hz10; clear hb; have QCy := Lib.hid qcy; have QWy := Lib.hid qwy; clear qcy qwy) | (go_at_call 16; refine (eqDisk_d Acx ncx ccx Awx nwx cwx Acy ncy ccy Awy nwy cwy _ _ w10 (x.rd (by omega)) (y.rd (by omega)) LB.out).mono ?_; rintro e w11 ⟨rfl, hb⟩; have he11 : Eff 0 0 w10 w11 := Eff.of hb; have hz11 : w10.heap.size ≤ w11.heap.size := he11.size; have b11 : Below W.heap.size W w11 := b10.trans (he11.below b10.size (by omega)); replace hd := (hd.below (he11.below (B := W.heap.size) (by omega) (by omega)) (Nat.le_refl _)); replace w0 := w0.keep he11 (by omega); replace x := x.keep he11 (by omega); replace g := g.keep he11 (by omega); replace y := y.keep he11 (by omega); replace aD_0 := he11.cell aD_0 (by simp only; omega); replace aD_1 := he11.cell aD_1 (by simp only; omega); replace x0_0 := he11.cell x0_0 (by simp only; omega); replace x0_1 := he11.cell x0_1 (by simp only; omega); replace aD_l := Nat.lt_of_lt_of_le aD_l hz11; replace x0_l := Nat.lt_of_lt_of_le x0_l hz11; clear hb))
    clear y
    go_wp2_with fail
    refine (markDisk_d Acx ncx ccx Awx nwx cwx 1 (w4.heap.size) (w5.heap.size) _ _ w11 x LB.out (by omega) _ (by first | rfl | simp)).mono ?_
    rintro e w12 ⟨rfl, x, he⟩
    have he12 : Eff (w4.heap.size) (w5.heap.size) w11 w12 := he
    have hz12 : w11.heap.size ≤ w12.heap.size := he12.size
    have b12 : Below W.heap.size W w12 := b11.trans (he12.below b11.size (by omega))
    replace hd := (hd.below (he12.below (B := W.heap.size) (by omega) (by omega)) (Nat.le_refl _))
    replace w0 := w0.keep he12 (by omega)
    replace g := g.keep he12 (by omega)
    replace aD_0 := he12.cell aD_0 (by simp only; omega)
    replace aD_1 := he12.cell aD_1 (by simp only; omega)
    replace x0_0 := he12.cell x0_0 (by simp only; omega)
    replace x0_1 := he12.cell x0_1 (by simp only; omega)
    replace aD_l := Nat.lt_of_lt_of_le aD_l hz12
    replace x0_l := Nat.lt_of_lt_of_le x0_l hz12
    clear he
    go_wp2_with fail
    refine (eqSectorS_same Ag N cg eg Aw0 N cw0 ew0 w12 (g.rd (by omega)) (w0.rd (by omega)) (QDg.out.trans QDw0.out.symm) (by omega) (sc_le QNg.out HNB.out) (sc_le QNw0.out HNB.out)).mono ?_
    rintro e w13 ⟨rfl, hb⟩
    have he13 : Eff 0 0 w12 w13 := Eff.of hb
    have hz13 : w12.heap.size ≤ w13.heap.size := he13.size
    have b13 : Below W.heap.size W w13 := b12.trans (he13.below b12.size (by omega))
    replace hd := (hd.below (he13.below (B := W.heap.size) (by omega) (by omega)) (Nat.le_refl _))
    replace w0 := w0.keep he13 (by omega)
    replace x := x.keep he13 (by omega)
    replace g := g.keep he13 (by omega)
    replace aD_0 := he13.cell aD_0 (by simp only; omega)
    replace aD_1 := he13.cell aD_1 (by simp only; omega)
    replace x0_0 := he13.cell x0_0 (by simp only; omega)
    replace x0_1 := he13.cell x0_1 (by simp only; omega)
    replace aD_l := Nat.lt_of_lt_of_le aD_l hz13
    replace x0_l := Nat.lt_of_lt_of_le x0_l hz13
    clear hb
    go_wp2_with fail
    refine (markSectorS_z Ag N cg eg ns _ _ 1 w13 g QNg.out HTOT.out (by omega) HNB.out _ rfl).mono ?_
    rintro e w14 ⟨eg2, rfl, qdg, qng, g, he⟩
    have he14 : Eff (w6.heap.size) (w7.heap.size) w13 w14 := he
    have hz14 : w13.heap.size ≤ w14.heap.size := he14.size
    have b14 : Below W.heap.size W w14 := b13.trans (he14.below b13.size (by omega))
    replace hd := (hd.below (he14.below (B := W.heap.size) (by omega) (by omega)) (Nat.le_refl _))
    replace w0 := w0.keep he14 (by omega)
    replace x := x.keep he14 (by omega)
    replace aD_0 := he14.cell aD_0 (by simp only; omega)
    replace aD_1 := he14.cell aD_1 (by simp only; omega)
    replace x0_0 := he14.cell x0_0 (by simp only; omega)
    replace x0_1 := he14.cell x0_1 (by simp only; omega)
    replace aD_l := Nat.lt_of_lt_of_le aD_l hz14
    replace x0_l := Nat.lt_of_lt_of_le x0_l hz14
    clear he
    rw [HMM.out]
    clear QDg QNg
    have QDg := Lib.hid qdg
    have QNg := Lib.hid qng
    clear qdg qng
    go_wp2_with fail
    refine (heldSectorS_z Ag N cg eg2 ns 1 w14 (g.rd (by omega)) QDg.out QNg.out HTOT.out (by omega) HNB.out _ rfl).mono ?_
    rintro e w15 ⟨rfl, hb⟩
    have he15 : Eff 0 0 w14 w15 := Eff.of hb
    have hz15 : w14.heap.size ≤ w15.heap.size := he15.size
    have b15 : Below W.heap.size W w15 := b14.trans (he15.below b14.size (by omega))
    replace hd := (hd.below (he15.below (B := W.heap.size) (by omega) (by omega)) (Nat.le_refl _))
    replace w0 := w0.keep he15 (by omega)
    replace x := x.keep he15 (by omega)
    replace g := g.keep he15 (by omega)
    replace aD_0 := he15.cell aD_0 (by simp only; omega)
    replace aD_1 := he15.cell aD_1 (by simp only; omega)
    replace x0_0 := he15.cell x0_0 (by simp only; omega)
    replace x0_1 := he15.cell x0_1 (by simp only; omega)
    replace aD_l := Nat.lt_of_lt_of_le aD_l hz15
    replace x0_l := Nat.lt_of_lt_of_le x0_l hz15
    clear hb
    rw [HMM.out]
    clear x
    go_wp2_with fail
    refine (toDisk_d Ac nc cc Aw nw cw dc dw w15 (hd.more (by omega)) LB.out).mono ?_
    rintro e w16 ⟨Acz, ncz, ccz, Awz, nwz, cwz, qcz, qwz, rfl, z, hb⟩
    have he16 : Eff 0 0 w15 w16 := Eff.of hb
    have hz16 : w15.heap.size ≤ w16.heap.size := he16.size
    have b16 : Below W.heap.size W w16 := b15.trans (he16.below b15.size (by omega))
    replace hd := (hd.below (he16.below (B := W.heap.size) (by omega) (by omega)) (Nat.le_refl _))
    replace w0 := w0.keep he16 (by omega)
    replace g := g.keep he16 (by omega)
    replace aD_0 := he16.cell aD_0 (by simp only; omega)
    replace aD_1 := he16.cell aD_1 (by simp only; omega)
    replace x0_0 := he16.cell x0_0 (by simp only; omega)
    replace x0_1 := he16.cell x0_1 (by simp only; omega)
    replace aD_l := Nat.lt_of_lt_of_le aD_l hz16
    replace x0_l := Nat.lt_of_lt_of_le x0_l hz16
    clear hb
    have QCz := Lib.hid qcz
    have QWz := Lib.hid qwz
    clear qcz qwz
    go_wp2_with fail
    refine (Himpl.out Acz ncz ccz Awz nwz cwz w16 (z.rd (by omega))).mono ?_
    rintro e w17 ⟨Ah, ch, eh, rfl, qdh, qnh, h, hb⟩
    have he17 : Eff 0 0 w16 w17 := Eff.of hb
    have hz17 : w16.heap.size ≤ w17.heap.size := he17.size
    have b17 : Below W.heap.size W w17 := b16.trans (he17.below b16.size (by omega))
    replace hd := (hd.below (he17.below (B := W.heap.size) (by omega) (by omega)) (Nat.le_refl _))
    replace w0 := w0.keep he17 (by omega)
    replace g := g.keep he17 (by omega)
    replace z := z.keep he17 (by omega)
    replace aD_0 := he17.cell aD_0 (by simp only; omega)
    replace aD_1 := he17.cell aD_1 (by simp only; omega)
    replace x0_0 := he17.cell x0_0 (by simp only; omega)
    replace x0_1 := he17.cell x0_1 (by simp only; omega)
    replace aD_l := Nat.lt_of_lt_of_le aD_l hz17
    replace x0_l := Nat.lt_of_lt_of_le x0_l hz17
    clear hb
    have QDh := Lib.hid qdh
    have QNh := Lib.hid qnh
    clear qdh qnh
    go_wp2_with fail
    refine (eqSectorS_same Ah N ch eh Aw0 N cw0 ew0 w17 (h.rd (by omega)) (w0.rd (by omega)) (QDh.out.trans QDw0.out.symm) (by omega) (sc_le QNh.out HNB.out) (sc_le QNw0.out HNB.out)).mono ?_
    rintro e w18 ⟨rfl, hb⟩
    have he18 : Eff 0 0 w17 w18 := Eff.of hb
    have hz18 : w17.heap.size ≤ w18.heap.size := he18.size
    have b18 : Below W.heap.size W w18 := b17.trans (he18.below b17.size (by omega))
    replace hd := (hd.below (he18.below (B := W.heap.size) (by omega) (by omega)) (Nat.le_refl _))
    replace w0 := w0.keep he18 (by omega)
    replace g := g.keep he18 (by omega)
    replace z := z.keep he18 (by omega)
    replace h := h.keep he18 (by omega)
    replace aD_0 := he18.cell aD_0 (by simp only; omega)
    replace aD_1 := he18.cell aD_1 (by simp only; omega)
    replace x0_0 := he18.cell x0_0 (by simp only; omega)
    replace x0_1 := he18.cell x0_1 (by simp only; omega)
    replace aD_l := Nat.lt_of_lt_of_le aD_l hz18
    replace x0_l := Nat.lt_of_lt_of_le x0_l hz18
    clear hb
    go_wp2_with fail
    refine (heldSectorS_z Ag N cg eg2 ns 1 w18 (g.rd (by omega)) QDg.out QNg.out HTOT.out (by omega) HNB.out _ rfl).mono ?_
    rintro e w19 ⟨rfl, hb⟩
    have he19 : Eff 0 0 w18 w19 := Eff.of hb
    have hz19 : w18.heap.size ≤ w19.heap.size := he19.size
    have b19 : Below W.heap.size W w19 := b18.trans (he19.below b18.size (by omega))
    replace hd := (hd.below (he19.below (B := W.heap.size) (by omega) (by omega)) (Nat.le_refl _))
    replace w0 := w0.keep he19 (by omega)
    replace g := g.keep he19 (by omega)
    replace z := z.keep he19 (by omega)
    replace h := h.keep he19 (by omega)
    replace aD_0 := he19.cell aD_0 (by simp only; omega)
    replace aD_1 := he19.cell aD_1 (by simp only; omega)
    replace x0_0 := he19.cell x0_0 (by simp only; omega)
    replace x0_1 := he19.cell x0_1 (by simp only; omega)
    replace aD_l := Nat.lt_of_lt_of_le aD_l hz19
    replace x0_l := Nat.lt_of_lt_of_le x0_l hz19
    clear hb
    rw [HMM.out]
    go_wp2_with fail
    go_ret
    exact ⟨rfl, b19⟩
end Go.Proofs.Ytblenfhacaecmaa
