/- SectorRead: program and reference. -/
import Derived.Test.YtblenfhacaecmaaSecB
import Derived.Test.YtblenfhacaecmaaStr
import Derived.Test.YtblenfhacaecmaaNum
import Derived.Laws.StructEq
namespace Go.Proofs.Ytblenfhacaecmaa
open Go.RowKit
/-- What the bytes of a sector say. -/
def rdQ (l : List UInt8) : Nat := beNat ((l.drop 1).take 3)
def rdP (l : List UInt8) : Nat := beNat ((l.drop 4).take 3)
def rdM (l : List UInt8) : Nat := (l.getD 7 0).toNat
def rdB (l : List UInt8) : List UInt8 := (l.drop 8).take (rdM l)
def secGood (l : List UInt8) : Bool := decide (l.length = 128) && decide (rdM l ≤ 100) && secOk (rdQ l) (rdP l) (rdM l) && eqL (secBytes (rdQ l) (rdP l) (rdM l) (rdB l)) l
def SecR (l : List UInt8) (w : World) (e : Ending) (w' : World) : Prop :=
  ∃ A c, e = .returned (.tuple #[.agg #[.int .i64 ((if secGood l then rdQ l else 0 : Nat) : Int), .int .i64 ((if secGood l then rdP l else 0 : Nat) : Int), .slice A (if secGood l then rdM l else 0) c], .bool (secGood l)]) ∧
    OwnB w' w.heap.size w'.heap.size A (if secGood l then rdM l else 0) c (if secGood l then rdB l else []) ∧ Below w.heap.size w w'
theorem SecR.no {l : List UInt8} {w w' : World} (h : secGood l = false) (hb : Below w.heap.size w w') : SecR l w (.returned (.tuple #[.agg #[.int .i64 0, .int .i64 0, .slice none 0 0], .bool false])) w' := by
  unfold SecR
  rw [h]
  exact ⟨none, 0, rfl, Own.nil _ _ _ _ _ (Nat.le_refl _), hb⟩
theorem SecR.yes {l : List UInt8} {w w' : World} {Q P m : Nat} {B : List UInt8} {A : Option Addr} {c : Nat} (h : secGood l = true) (hQ : rdQ l = Q) (hP : rdP l = P) (hm : rdM l = m) (hB : rdB l = B) (ho : OwnB w' w.heap.size w'.heap.size A m c B) (hb : Below w.heap.size w w') :
    SecR l w (.returned (.tuple #[.agg #[.int .i64 (Q : Int), .int .i64 (P : Int), .slice A m c], .bool true])) w' := by
  unfold SecR
  rw [h]
  subst hQ hP hm hB
  exact ⟨A, c, rfl, ho, hb⟩
theorem good_len {l : List UInt8} (h : l.length ≠ 128) : secGood l = false := by simp [secGood, h]
theorem good_m {l : List UInt8} (h : 100 < rdM l) : secGood l = false := by
  have : ¬ rdM l ≤ 100 := by omega
  simp [secGood, this]
theorem good_ok {l : List UInt8} (h : secOk (rdQ l) (rdP l) (rdM l) = false) : secGood l = false := by simp [secGood, h]
theorem good_eq {l : List UInt8} (h : secBytes (rdQ l) (rdP l) (rdM l) (rdB l) ≠ l) : secGood l = false := by simp [secGood, eqL, h]
theorem good_yes {l : List UInt8} (h1 : l.length = 128) (h2 : rdM l ≤ 100) (h3 : secOk (rdQ l) (rdP l) (rdM l) = true) (h4 : secBytes (rdQ l) (rdP l) (rdM l) (rdB l) = l) : secGood l = true := by simp [secGood, eqL, h1, h2, h3, h4]
theorem PutB.not {n : Nat} {l : List UInt8} {w : World} {e : Ending} {w' : World} (h : PutB n l false w e w') : e = .returned (.tuple #[.slice none 0 0, .bool false]) ∧ Below w.heap.size w w' := by
  rcases h with ⟨h, _⟩ | ⟨_, h⟩
  · cases h
  · exact h
set_option maxHeartbeats 4000000 in
set_option maxRecDepth 100000 in
theorem impl_SectorRead (A : Option Addr) (n c : Nat) (l : List UInt8) (hnc : n ≤ c) (hc : c ≤ maxLen) (W : World) (hr : Rd W W.heap.size 1 A n (Lib.byteCells l)) : Calls Try.prog 84 #[.slice A n c] W (SecR l W) := by
  have hlen := len_of_rd hr
  unfold maxLen at hc
  by_cases hn : n = 128
  · subst hn
    obtain ⟨b, off, h7l, rfl, hbB, h7⟩ := hr.byte (k := 7) (by omega)
    obtain ⟨m, hm⟩ : ∃ m, rdM l = m := ⟨_, rfl⟩
    obtain ⟨Q, hQ⟩ : ∃ Q, rdQ l = Q := ⟨_, rfl⟩
    obtain ⟨P, hP⟩ : ∃ P, rdP l = P := ⟨_, rfl⟩
    have hm7 : l[7].toNat = m := by rw [← hm]; simp [rdM, h7l]
    have hmb := l[7].toNat_lt
    rw [hm7] at h7 hmb
    have HM := Lib.hid hm
    have HQ := Lib.hid hQ
    have HP := Lib.hid hP
    have HL := Lib.hid hlen
    clear hm hQ hP hlen hm7
    by_cases hm100 : 100 < m
    · have HG := Lib.hid (good_m (l := l) (by rw [HM.out]; exact hm100))
      go_enter Try.func84, Try.ntmps84
      go_wp2
      refine bodyPost_ret (v := .tuple #[.agg #[.int .i64 0, .int .i64 0, .slice none 0 0], .bool false]) (by simp [results, Try.results84, go_sem, *]) rfl ?_
      refine SecR.no HG.out ?_
      repeat' (first | exact Below.refl _ _ | (refine Below.alloc ?_ ?_ _) | (refine Below.drew ?_) | (refine Below.setCell ?_ ?_ _) | (refine Below.trans ?_ (Below.mono (by assumption) ?_)) | omega | (simp; omega) | (simp; done) | exact Below.size (by assumption) | (refine Nat.le_trans ?_ (Below.size (by assumption))))
    · have hm' : m ≤ 100 := by omega
      clear hm100
      rcases hok : secOk Q P m with _ | _
      · skip
        go_enter Try.func84, Try.ntmps84
        go_wp2_with fail
        have he1 : Eff 0 0 W (W.alloc (.cells #[.int .i64 0, .int .i64 0, .slice none 0 0] 91)) := Eff.alloc _ _
        have hs1 : (W.alloc (.cells #[.int .i64 0, .int .i64 0, .slice none 0 0] 91)).heap.size = W.heap.size + 1 := (by simp)
        have res_0 : (W.alloc (.cells #[.int .i64 0, .int .i64 0, .slice none 0 0] 91)).cell? ⟨W.heap.size, 0, none⟩ = some (.int .i64 0) := var_cell _ _ _ _ _ rfl
        have res_1 : (W.alloc (.cells #[.int .i64 0, .int .i64 0, .slice none 0 0] 91)).cell? ⟨W.heap.size, 1, none⟩ = some (.int .i64 0) := var_cell _ _ _ _ _ rfl
        have res_2 : (W.alloc (.cells #[.int .i64 0, .int .i64 0, .slice none 0 0] 91)).cell? ⟨W.heap.size, 2, none⟩ = some (.slice none 0 0) := var_cell _ _ _ _ _ rfl
        have res_f0 : (W.alloc (.cells #[.int .i64 0, .int .i64 0, .slice none 0 0] 91)).frozen? ⟨W.heap.size, 0, none⟩ = false := var_frozen _ _ _ _
        have res_f1 : (W.alloc (.cells #[.int .i64 0, .int .i64 0, .slice none 0 0] 91)).frozen? ⟨W.heap.size, 1, none⟩ = false := var_frozen _ _ _ _
        have res_f2 : (W.alloc (.cells #[.int .i64 0, .int .i64 0, .slice none 0 0] 91)).frozen? ⟨W.heap.size, 2, none⟩ = false := var_frozen _ _ _ _
        generalize (W.alloc (.cells #[.int .i64 0, .int .i64 0, .slice none 0 0] 91)) = w1 at *
        have hz1 : W.heap.size ≤ w1.heap.size := he1.size
        have b1 : Below W.heap.size W w1 := he1.below (Nat.le_refl _) (by omega)
        replace hr := (hr.below (he1.below (B := W.heap.size) (by omega) (by omega)) (Nat.le_refl _))
        replace h7 := he1.cell h7 (by simp only; omega)
        have res_l : W.heap.size < w1.heap.size := (by omega)
        refine (impl_GetNum_ok _ 128 _ l 1 3 (by omega) (by omega) (by omega) (by omega) (by omega) w1 (hr.more (by omega))).mono ?_
        rintro e w2 ⟨rfl, hb⟩
        have he2 : Eff 0 0 w1 w2 := Eff.of hb
        have hz2 : w1.heap.size ≤ w2.heap.size := he2.size
        have b2 : Below W.heap.size W w2 := b1.trans (he2.below b1.size (by omega))
        replace hr := (hr.below (he2.below (B := W.heap.size) (by omega) (by omega)) (Nat.le_refl _))
        replace res_f0 := (he2.frozen res_0 (by simp only; omega)).trans res_f0
        replace res_f1 := (he2.frozen res_1 (by simp only; omega)).trans res_f1
        replace res_f2 := (he2.frozen res_2 (by simp only; omega)).trans res_f2
        replace h7 := he2.cell h7 (by simp only; omega)
        replace res_0 := he2.cell res_0 (by simp only; omega)
        replace res_1 := he2.cell res_1 (by simp only; omega)
        replace res_2 := he2.cell res_2 (by simp only; omega)
        replace res_l := Nat.lt_of_lt_of_le res_l hz2
        clear hb
        rw [show beNat ((l.drop 1).take 3) = Q from HQ.out]
        go_wp2_with fail
        refine (impl_GetNum_ok _ 128 _ l 4 3 (by omega) (by omega) (by omega) (by omega) (by omega) w2 (hr.more (by omega))).mono ?_
        rintro e w3 ⟨rfl, hb⟩
        have he3 : Eff 0 0 w2 w3 := Eff.of hb
        have hz3 : w2.heap.size ≤ w3.heap.size := he3.size
        have b3 : Below W.heap.size W w3 := b2.trans (he3.below b2.size (by omega))
        replace hr := (hr.below (he3.below (B := W.heap.size) (by omega) (by omega)) (Nat.le_refl _))
        replace res_f0 := (he3.frozen res_0 (by simp only; omega)).trans res_f0
        replace res_f1 := (he3.frozen res_1 (by simp only; omega)).trans res_f1
        replace res_f2 := (he3.frozen res_2 (by simp only; omega)).trans res_f2
        replace h7 := he3.cell h7 (by simp only; omega)
        replace res_0 := he3.cell res_0 (by simp only; omega)
        replace res_1 := he3.cell res_1 (by simp only; omega)
        replace res_2 := he3.cell res_2 (by simp only; omega)
        replace res_l := Nat.lt_of_lt_of_le res_l hz3
        clear hb
        rw [show beNat ((l.drop 4).take 3) = P from HP.out]
        go_wp2_with fail
        refine (copyBytes_any _ m _ ((l.drop 8).take m) w3 ((hr.sub (lo := 8) (m := m) (by omega)).more (by omega)) (by omega)).mono ?_
        rintro e w4 ⟨Ay, cy, rfl, y, hb⟩
        have he4 : Eff 0 0 w3 w4 := Eff.of hb
        have hz4 : w3.heap.size ≤ w4.heap.size := he4.size
        have b4 : Below W.heap.size W w4 := b3.trans (he4.below b3.size (by omega))
        replace hr := (hr.below (he4.below (B := W.heap.size) (by omega) (by omega)) (Nat.le_refl _))
        replace res_f0 := (he4.frozen res_0 (by simp only; omega)).trans res_f0
        replace res_f1 := (he4.frozen res_1 (by simp only; omega)).trans res_f1
        replace res_f2 := (he4.frozen res_2 (by simp only; omega)).trans res_f2
        replace h7 := he4.cell h7 (by simp only; omega)
        replace res_0 := he4.cell res_0 (by simp only; omega)
        replace res_1 := he4.cell res_1 (by simp only; omega)
        replace res_2 := he4.cell res_2 (by simp only; omega)
        replace res_l := Nat.lt_of_lt_of_le res_l hz4
        clear hb
        go_wp2_with fail
        have he5 : Eff 0 0 w4 (w4.alloc (.cells #[.int .i64 (Q : Int), .int .i64 (P : Int), .slice Ay m cy] 91)) := Eff.alloc _ _
        have hs5 : (w4.alloc (.cells #[.int .i64 (Q : Int), .int .i64 (P : Int), .slice Ay m cy] 91)).heap.size = w4.heap.size + 1 := (by simp)
        have s_0 : (w4.alloc (.cells #[.int .i64 (Q : Int), .int .i64 (P : Int), .slice Ay m cy] 91)).cell? ⟨w4.heap.size, 0, none⟩ = some (.int .i64 (Q : Int)) := var_cell _ _ _ _ _ rfl
        have s_1 : (w4.alloc (.cells #[.int .i64 (Q : Int), .int .i64 (P : Int), .slice Ay m cy] 91)).cell? ⟨w4.heap.size, 1, none⟩ = some (.int .i64 (P : Int)) := var_cell _ _ _ _ _ rfl
        have s_2 : (w4.alloc (.cells #[.int .i64 (Q : Int), .int .i64 (P : Int), .slice Ay m cy] 91)).cell? ⟨w4.heap.size, 2, none⟩ = some (.slice Ay m cy) := var_cell _ _ _ _ _ rfl
        generalize (w4.alloc (.cells #[.int .i64 (Q : Int), .int .i64 (P : Int), .slice Ay m cy] 91)) = w5 at *
        have hz5 : w4.heap.size ≤ w5.heap.size := he5.size
        have b5 : Below W.heap.size W w5 := b4.trans (he5.below b4.size (by omega))
        replace hr := (hr.below (he5.below (B := W.heap.size) (by omega) (by omega)) (Nat.le_refl _))
        replace y := y.keep he5 (by omega)
        replace res_f0 := (he5.frozen res_0 (by simp only; omega)).trans res_f0
        replace res_f1 := (he5.frozen res_1 (by simp only; omega)).trans res_f1
        replace res_f2 := (he5.frozen res_2 (by simp only; omega)).trans res_f2
        replace h7 := he5.cell h7 (by simp only; omega)
        replace res_0 := he5.cell res_0 (by simp only; omega)
        replace res_1 := he5.cell res_1 (by simp only; omega)
        replace res_2 := he5.cell res_2 (by simp only; omega)
        replace res_l := Nat.lt_of_lt_of_le res_l hz5
        have s_l : w4.heap.size < w5.heap.size := (by omega)
        have HG := Lib.hid (good_ok (l := l) (by rw [HQ.out, HP.out, HM.out]; exact hok))
        refine (impl_SectorBytes (Q : Int) (P : Int) _ m _ ((l.drop 8).take m) (by omega) w5 (y.rd (by omega))).mono ?_
        rintro e w6 hpost
        rw [hok] at hpost
        obtain ⟨rfl, hb⟩ := hpost.not
        clear hpost
        have he6 : Eff 0 0 w5 w6 := Eff.of hb
        have hz6 : w5.heap.size ≤ w6.heap.size := he6.size
        have b6 : Below W.heap.size W w6 := b5.trans (he6.below b5.size (by omega))
        replace hr := (hr.below (he6.below (B := W.heap.size) (by omega) (by omega)) (Nat.le_refl _))
        replace y := y.keep he6 (by omega)
        replace res_f0 := (he6.frozen res_0 (by simp only; omega)).trans res_f0
        replace res_f1 := (he6.frozen res_1 (by simp only; omega)).trans res_f1
        replace res_f2 := (he6.frozen res_2 (by simp only; omega)).trans res_f2
        replace h7 := he6.cell h7 (by simp only; omega)
        replace res_0 := he6.cell res_0 (by simp only; omega)
        replace res_1 := he6.cell res_1 (by simp only; omega)
        replace res_2 := he6.cell res_2 (by simp only; omega)
        replace s_0 := he6.cell s_0 (by simp only; omega)
        replace s_1 := he6.cell s_1 (by simp only; omega)
        replace s_2 := he6.cell s_2 (by simp only; omega)
        replace res_l := Nat.lt_of_lt_of_le res_l hz6
        replace s_l := Nat.lt_of_lt_of_le s_l hz6
        clear hb
        go_wp2
        refine bodyPost_ret (v := .tuple #[.agg #[.int .i64 0, .int .i64 0, .slice none 0 0], .bool false]) (by simp [results, Try.results84, go_sem, *]) rfl ?_
        refine SecR.no HG.out ?_
        repeat' (first | exact Below.refl _ _ | (refine Below.alloc ?_ ?_ _) | (refine Below.drew ?_) | (refine Below.setCell ?_ ?_ _) | (refine Below.trans ?_ (Below.mono (by assumption) ?_)) | omega | (simp; omega) | (simp; done) | exact Below.size (by assumption) | (refine Nat.le_trans ?_ (Below.size (by assumption))))
      · by_cases heq : secBytes Q P m ((l.drop 8).take m) = l
        · skip
          go_enter Try.func84, Try.ntmps84
          go_wp2_with fail
          have he1 : Eff 0 0 W (W.alloc (.cells #[.int .i64 0, .int .i64 0, .slice none 0 0] 91)) := Eff.alloc _ _
          have hs1 : (W.alloc (.cells #[.int .i64 0, .int .i64 0, .slice none 0 0] 91)).heap.size = W.heap.size + 1 := (by simp)
          have res_0 : (W.alloc (.cells #[.int .i64 0, .int .i64 0, .slice none 0 0] 91)).cell? ⟨W.heap.size, 0, none⟩ = some (.int .i64 0) := var_cell _ _ _ _ _ rfl
          have res_1 : (W.alloc (.cells #[.int .i64 0, .int .i64 0, .slice none 0 0] 91)).cell? ⟨W.heap.size, 1, none⟩ = some (.int .i64 0) := var_cell _ _ _ _ _ rfl
          have res_2 : (W.alloc (.cells #[.int .i64 0, .int .i64 0, .slice none 0 0] 91)).cell? ⟨W.heap.size, 2, none⟩ = some (.slice none 0 0) := var_cell _ _ _ _ _ rfl
          have res_f0 : (W.alloc (.cells #[.int .i64 0, .int .i64 0, .slice none 0 0] 91)).frozen? ⟨W.heap.size, 0, none⟩ = false := var_frozen _ _ _ _
          have res_f1 : (W.alloc (.cells #[.int .i64 0, .int .i64 0, .slice none 0 0] 91)).frozen? ⟨W.heap.size, 1, none⟩ = false := var_frozen _ _ _ _
          have res_f2 : (W.alloc (.cells #[.int .i64 0, .int .i64 0, .slice none 0 0] 91)).frozen? ⟨W.heap.size, 2, none⟩ = false := var_frozen _ _ _ _
          generalize (W.alloc (.cells #[.int .i64 0, .int .i64 0, .slice none 0 0] 91)) = w1 at *
          have hz1 : W.heap.size ≤ w1.heap.size := he1.size
          have b1 : Below W.heap.size W w1 := he1.below (Nat.le_refl _) (by omega)
          replace hr := (hr.below (he1.below (B := W.heap.size) (by omega) (by omega)) (Nat.le_refl _))
          replace h7 := he1.cell h7 (by simp only; omega)
          have res_l : W.heap.size < w1.heap.size := (by omega)
          refine (impl_GetNum_ok _ 128 _ l 1 3 (by omega) (by omega) (by omega) (by omega) (by omega) w1 (hr.more (by omega))).mono ?_
          rintro e w2 ⟨rfl, hb⟩
          have he2 : Eff 0 0 w1 w2 := Eff.of hb
          have hz2 : w1.heap.size ≤ w2.heap.size := he2.size
          have b2 : Below W.heap.size W w2 := b1.trans (he2.below b1.size (by omega))
          replace hr := (hr.below (he2.below (B := W.heap.size) (by omega) (by omega)) (Nat.le_refl _))
          replace res_f0 := (he2.frozen res_0 (by simp only; omega)).trans res_f0
          replace res_f1 := (he2.frozen res_1 (by simp only; omega)).trans res_f1
          replace res_f2 := (he2.frozen res_2 (by simp only; omega)).trans res_f2
          replace h7 := he2.cell h7 (by simp only; omega)
          replace res_0 := he2.cell res_0 (by simp only; omega)
          replace res_1 := he2.cell res_1 (by simp only; omega)
          replace res_2 := he2.cell res_2 (by simp only; omega)
          replace res_l := Nat.lt_of_lt_of_le res_l hz2
          clear hb
          rw [show beNat ((l.drop 1).take 3) = Q from HQ.out]
          go_wp2_with fail
          refine (impl_GetNum_ok _ 128 _ l 4 3 (by omega) (by omega) (by omega) (by omega) (by omega) w2 (hr.more (by omega))).mono ?_
          rintro e w3 ⟨rfl, hb⟩
          have he3 : Eff 0 0 w2 w3 := Eff.of hb
          have hz3 : w2.heap.size ≤ w3.heap.size := he3.size
          have b3 : Below W.heap.size W w3 := b2.trans (he3.below b2.size (by omega))
          replace hr := (hr.below (he3.below (B := W.heap.size) (by omega) (by omega)) (Nat.le_refl _))
          replace res_f0 := (he3.frozen res_0 (by simp only; omega)).trans res_f0
          replace res_f1 := (he3.frozen res_1 (by simp only; omega)).trans res_f1
          replace res_f2 := (he3.frozen res_2 (by simp only; omega)).trans res_f2
          replace h7 := he3.cell h7 (by simp only; omega)
          replace res_0 := he3.cell res_0 (by simp only; omega)
          replace res_1 := he3.cell res_1 (by simp only; omega)
          replace res_2 := he3.cell res_2 (by simp only; omega)
          replace res_l := Nat.lt_of_lt_of_le res_l hz3
          clear hb
          rw [show beNat ((l.drop 4).take 3) = P from HP.out]
          go_wp2_with fail
          refine (copyBytes_any _ m _ ((l.drop 8).take m) w3 ((hr.sub (lo := 8) (m := m) (by omega)).more (by omega)) (by omega)).mono ?_
          rintro e w4 ⟨Ay, cy, rfl, y, hb⟩
          have he4 : Eff 0 0 w3 w4 := Eff.of hb
          have hz4 : w3.heap.size ≤ w4.heap.size := he4.size
          have b4 : Below W.heap.size W w4 := b3.trans (he4.below b3.size (by omega))
          replace hr := (hr.below (he4.below (B := W.heap.size) (by omega) (by omega)) (Nat.le_refl _))
          replace res_f0 := (he4.frozen res_0 (by simp only; omega)).trans res_f0
          replace res_f1 := (he4.frozen res_1 (by simp only; omega)).trans res_f1
          replace res_f2 := (he4.frozen res_2 (by simp only; omega)).trans res_f2
          replace h7 := he4.cell h7 (by simp only; omega)
          replace res_0 := he4.cell res_0 (by simp only; omega)
          replace res_1 := he4.cell res_1 (by simp only; omega)
          replace res_2 := he4.cell res_2 (by simp only; omega)
          replace res_l := Nat.lt_of_lt_of_le res_l hz4
          clear hb
          go_wp2_with fail
          have he5 : Eff 0 0 w4 (w4.alloc (.cells #[.int .i64 (Q : Int), .int .i64 (P : Int), .slice Ay m cy] 91)) := Eff.alloc _ _
          have hs5 : (w4.alloc (.cells #[.int .i64 (Q : Int), .int .i64 (P : Int), .slice Ay m cy] 91)).heap.size = w4.heap.size + 1 := (by simp)
          have s_0 : (w4.alloc (.cells #[.int .i64 (Q : Int), .int .i64 (P : Int), .slice Ay m cy] 91)).cell? ⟨w4.heap.size, 0, none⟩ = some (.int .i64 (Q : Int)) := var_cell _ _ _ _ _ rfl
          have s_1 : (w4.alloc (.cells #[.int .i64 (Q : Int), .int .i64 (P : Int), .slice Ay m cy] 91)).cell? ⟨w4.heap.size, 1, none⟩ = some (.int .i64 (P : Int)) := var_cell _ _ _ _ _ rfl
          have s_2 : (w4.alloc (.cells #[.int .i64 (Q : Int), .int .i64 (P : Int), .slice Ay m cy] 91)).cell? ⟨w4.heap.size, 2, none⟩ = some (.slice Ay m cy) := var_cell _ _ _ _ _ rfl
          generalize (w4.alloc (.cells #[.int .i64 (Q : Int), .int .i64 (P : Int), .slice Ay m cy] 91)) = w5 at *
          have hz5 : w4.heap.size ≤ w5.heap.size := he5.size
          have b5 : Below W.heap.size W w5 := b4.trans (he5.below b4.size (by omega))
          replace hr := (hr.below (he5.below (B := W.heap.size) (by omega) (by omega)) (Nat.le_refl _))
          replace y := y.keep he5 (by omega)
          replace res_f0 := (he5.frozen res_0 (by simp only; omega)).trans res_f0
          replace res_f1 := (he5.frozen res_1 (by simp only; omega)).trans res_f1
          replace res_f2 := (he5.frozen res_2 (by simp only; omega)).trans res_f2
          replace h7 := he5.cell h7 (by simp only; omega)
          replace res_0 := he5.cell res_0 (by simp only; omega)
          replace res_1 := he5.cell res_1 (by simp only; omega)
          replace res_2 := he5.cell res_2 (by simp only; omega)
          replace res_l := Nat.lt_of_lt_of_le res_l hz5
          have s_l : w4.heap.size < w5.heap.size := (by omega)
          refine (impl_SectorBytes (Q : Int) (P : Int) _ m _ ((l.drop 8).take m) (by omega) w5 (y.rd (by omega))).mono ?_
          rintro e w6 hpost
          rw [hok] at hpost
          obtain ⟨Ar, cr, rfl, r, hb⟩ := hpost.yes (N := 128)
          clear hpost
          have he6 : Eff 0 0 w5 w6 := Eff.of hb
          have hz6 : w5.heap.size ≤ w6.heap.size := he6.size
          have b6 : Below W.heap.size W w6 := b5.trans (he6.below b5.size (by omega))
          replace hr := (hr.below (he6.below (B := W.heap.size) (by omega) (by omega)) (Nat.le_refl _))
          replace y := y.keep he6 (by omega)
          replace res_f0 := (he6.frozen res_0 (by simp only; omega)).trans res_f0
          replace res_f1 := (he6.frozen res_1 (by simp only; omega)).trans res_f1
          replace res_f2 := (he6.frozen res_2 (by simp only; omega)).trans res_f2
          replace h7 := he6.cell h7 (by simp only; omega)
          replace res_0 := he6.cell res_0 (by simp only; omega)
          replace res_1 := he6.cell res_1 (by simp only; omega)
          replace res_2 := he6.cell res_2 (by simp only; omega)
          replace s_0 := he6.cell s_0 (by simp only; omega)
          replace s_1 := he6.cell s_1 (by simp only; omega)
          replace s_2 := he6.cell s_2 (by simp only; omega)
          replace res_l := Nat.lt_of_lt_of_le res_l hz6
          replace s_l := Nat.lt_of_lt_of_le s_l hz6
          clear hb
          have r1 : OwnB w6 _ _ Ar 128 cr (secBytes Q P m ((l.drop 8).take m)) := r
          have hc1 := (OwnB.rd r1 (B := w6.heap.size) (by omega)).str 27 5 cr Try.underlying27 Try.underlying5 9 Try.underlying9
          have hc2 := hr.str 27 5 c Try.underlying27 Try.underlying5 9 Try.underlying9
          have HG := Lib.hid (good_yes (l := l) HL.out (by rw [HM.out]; omega) (by rw [HQ.out, HP.out, HM.out]; exact hok) (by unfold rdB; rw [HQ.out, HP.out, HM.out]; exact heq))
          rw [heq] at hc1
          obtain ⟨s2, hs2x⟩ : ∃ s, bstr l = s := ⟨_, rfl⟩
          rw [hs2x] at hc1 hc2
          clear hs2x
          go_wp2
          refine bodyPost_ret (v := .tuple #[.agg #[.int .i64 (Q : Int), .int .i64 (P : Int), .slice Ay m cy], .bool true]) (by simp [results, Try.results84, go_sem, *]) rfl ?_
          refine SecR.yes HG.out HQ.out HP.out HM.out (by unfold rdB; rw [HM.out]) (y.made (lo' := W.heap.size) (hi' := W.heap.size + 1) ?_ ?_ ?_) ?_
          · repeat' (first | exact Eff.refl _ _ _ | (refine Eff.setCell ?_ ?_ ?_ _) | omega | (simp; omega) | (simp; done))
          · omega
          · omega
          · repeat' (first | exact Below.refl _ _ | (refine Below.alloc ?_ ?_ _) | (refine Below.drew ?_) | (refine Below.setCell ?_ ?_ _) | (refine Below.trans ?_ (Below.mono (by assumption) ?_)) | omega | (simp; omega) | (simp; done) | exact Below.size (by assumption) | (refine Nat.le_trans ?_ (Below.size (by assumption))))
        · skip
          go_enter Try.func84, Try.ntmps84
          go_wp2_with fail
          have he1 : Eff 0 0 W (W.alloc (.cells #[.int .i64 0, .int .i64 0, .slice none 0 0] 91)) := Eff.alloc _ _
          have hs1 : (W.alloc (.cells #[.int .i64 0, .int .i64 0, .slice none 0 0] 91)).heap.size = W.heap.size + 1 := (by simp)
          have res_0 : (W.alloc (.cells #[.int .i64 0, .int .i64 0, .slice none 0 0] 91)).cell? ⟨W.heap.size, 0, none⟩ = some (.int .i64 0) := var_cell _ _ _ _ _ rfl
          have res_1 : (W.alloc (.cells #[.int .i64 0, .int .i64 0, .slice none 0 0] 91)).cell? ⟨W.heap.size, 1, none⟩ = some (.int .i64 0) := var_cell _ _ _ _ _ rfl
          have res_2 : (W.alloc (.cells #[.int .i64 0, .int .i64 0, .slice none 0 0] 91)).cell? ⟨W.heap.size, 2, none⟩ = some (.slice none 0 0) := var_cell _ _ _ _ _ rfl
          have res_f0 : (W.alloc (.cells #[.int .i64 0, .int .i64 0, .slice none 0 0] 91)).frozen? ⟨W.heap.size, 0, none⟩ = false := var_frozen _ _ _ _
          have res_f1 : (W.alloc (.cells #[.int .i64 0, .int .i64 0, .slice none 0 0] 91)).frozen? ⟨W.heap.size, 1, none⟩ = false := var_frozen _ _ _ _
          have res_f2 : (W.alloc (.cells #[.int .i64 0, .int .i64 0, .slice none 0 0] 91)).frozen? ⟨W.heap.size, 2, none⟩ = false := var_frozen _ _ _ _
          generalize (W.alloc (.cells #[.int .i64 0, .int .i64 0, .slice none 0 0] 91)) = w1 at *
          have hz1 : W.heap.size ≤ w1.heap.size := he1.size
          have b1 : Below W.heap.size W w1 := he1.below (Nat.le_refl _) (by omega)
          replace hr := (hr.below (he1.below (B := W.heap.size) (by omega) (by omega)) (Nat.le_refl _))
          replace h7 := he1.cell h7 (by simp only; omega)
          have res_l : W.heap.size < w1.heap.size := (by omega)
          refine (impl_GetNum_ok _ 128 _ l 1 3 (by omega) (by omega) (by omega) (by omega) (by omega) w1 (hr.more (by omega))).mono ?_
          rintro e w2 ⟨rfl, hb⟩
          have he2 : Eff 0 0 w1 w2 := Eff.of hb
          have hz2 : w1.heap.size ≤ w2.heap.size := he2.size
          have b2 : Below W.heap.size W w2 := b1.trans (he2.below b1.size (by omega))
          replace hr := (hr.below (he2.below (B := W.heap.size) (by omega) (by omega)) (Nat.le_refl _))
          replace res_f0 := (he2.frozen res_0 (by simp only; omega)).trans res_f0
          replace res_f1 := (he2.frozen res_1 (by simp only; omega)).trans res_f1
          replace res_f2 := (he2.frozen res_2 (by simp only; omega)).trans res_f2
          replace h7 := he2.cell h7 (by simp only; omega)
          replace res_0 := he2.cell res_0 (by simp only; omega)
          replace res_1 := he2.cell res_1 (by simp only; omega)
          replace res_2 := he2.cell res_2 (by simp only; omega)
          replace res_l := Nat.lt_of_lt_of_le res_l hz2
          clear hb
          rw [show beNat ((l.drop 1).take 3) = Q from HQ.out]
          go_wp2_with fail
          refine (impl_GetNum_ok _ 128 _ l 4 3 (by omega) (by omega) (by omega) (by omega) (by omega) w2 (hr.more (by omega))).mono ?_
          rintro e w3 ⟨rfl, hb⟩
          have he3 : Eff 0 0 w2 w3 := Eff.of hb
          have hz3 : w2.heap.size ≤ w3.heap.size := he3.size
          have b3 : Below W.heap.size W w3 := b2.trans (he3.below b2.size (by omega))
          replace hr := (hr.below (he3.below (B := W.heap.size) (by omega) (by omega)) (Nat.le_refl _))
          replace res_f0 := (he3.frozen res_0 (by simp only; omega)).trans res_f0
          replace res_f1 := (he3.frozen res_1 (by simp only; omega)).trans res_f1
          replace res_f2 := (he3.frozen res_2 (by simp only; omega)).trans res_f2
          replace h7 := he3.cell h7 (by simp only; omega)
          replace res_0 := he3.cell res_0 (by simp only; omega)
          replace res_1 := he3.cell res_1 (by simp only; omega)
          replace res_2 := he3.cell res_2 (by simp only; omega)
          replace res_l := Nat.lt_of_lt_of_le res_l hz3
          clear hb
          rw [show beNat ((l.drop 4).take 3) = P from HP.out]
          go_wp2_with fail
          refine (copyBytes_any _ m _ ((l.drop 8).take m) w3 ((hr.sub (lo := 8) (m := m) (by omega)).more (by omega)) (by omega)).mono ?_
          rintro e w4 ⟨Ay, cy, rfl, y, hb⟩
          have he4 : Eff 0 0 w3 w4 := Eff.of hb
          have hz4 : w3.heap.size ≤ w4.heap.size := he4.size
          have b4 : Below W.heap.size W w4 := b3.trans (he4.below b3.size (by omega))
          replace hr := (hr.below (he4.below (B := W.heap.size) (by omega) (by omega)) (Nat.le_refl _))
          replace res_f0 := (he4.frozen res_0 (by simp only; omega)).trans res_f0
          replace res_f1 := (he4.frozen res_1 (by simp only; omega)).trans res_f1
          replace res_f2 := (he4.frozen res_2 (by simp only; omega)).trans res_f2
          replace h7 := he4.cell h7 (by simp only; omega)
          replace res_0 := he4.cell res_0 (by simp only; omega)
          replace res_1 := he4.cell res_1 (by simp only; omega)
          replace res_2 := he4.cell res_2 (by simp only; omega)
          replace res_l := Nat.lt_of_lt_of_le res_l hz4
          clear hb
          go_wp2_with fail
          have he5 : Eff 0 0 w4 (w4.alloc (.cells #[.int .i64 (Q : Int), .int .i64 (P : Int), .slice Ay m cy] 91)) := Eff.alloc _ _
          have hs5 : (w4.alloc (.cells #[.int .i64 (Q : Int), .int .i64 (P : Int), .slice Ay m cy] 91)).heap.size = w4.heap.size + 1 := (by simp)
          have s_0 : (w4.alloc (.cells #[.int .i64 (Q : Int), .int .i64 (P : Int), .slice Ay m cy] 91)).cell? ⟨w4.heap.size, 0, none⟩ = some (.int .i64 (Q : Int)) := var_cell _ _ _ _ _ rfl
          have s_1 : (w4.alloc (.cells #[.int .i64 (Q : Int), .int .i64 (P : Int), .slice Ay m cy] 91)).cell? ⟨w4.heap.size, 1, none⟩ = some (.int .i64 (P : Int)) := var_cell _ _ _ _ _ rfl
          have s_2 : (w4.alloc (.cells #[.int .i64 (Q : Int), .int .i64 (P : Int), .slice Ay m cy] 91)).cell? ⟨w4.heap.size, 2, none⟩ = some (.slice Ay m cy) := var_cell _ _ _ _ _ rfl
          generalize (w4.alloc (.cells #[.int .i64 (Q : Int), .int .i64 (P : Int), .slice Ay m cy] 91)) = w5 at *
          have hz5 : w4.heap.size ≤ w5.heap.size := he5.size
          have b5 : Below W.heap.size W w5 := b4.trans (he5.below b4.size (by omega))
          replace hr := (hr.below (he5.below (B := W.heap.size) (by omega) (by omega)) (Nat.le_refl _))
          replace y := y.keep he5 (by omega)
          replace res_f0 := (he5.frozen res_0 (by simp only; omega)).trans res_f0
          replace res_f1 := (he5.frozen res_1 (by simp only; omega)).trans res_f1
          replace res_f2 := (he5.frozen res_2 (by simp only; omega)).trans res_f2
          replace h7 := he5.cell h7 (by simp only; omega)
          replace res_0 := he5.cell res_0 (by simp only; omega)
          replace res_1 := he5.cell res_1 (by simp only; omega)
          replace res_2 := he5.cell res_2 (by simp only; omega)
          replace res_l := Nat.lt_of_lt_of_le res_l hz5
          have s_l : w4.heap.size < w5.heap.size := (by omega)
          refine (impl_SectorBytes (Q : Int) (P : Int) _ m _ ((l.drop 8).take m) (by omega) w5 (y.rd (by omega))).mono ?_
          rintro e w6 hpost
          rw [hok] at hpost
          obtain ⟨Ar, cr, rfl, r, hb⟩ := hpost.yes (N := 128)
          clear hpost
          have he6 : Eff 0 0 w5 w6 := Eff.of hb
          have hz6 : w5.heap.size ≤ w6.heap.size := he6.size
          have b6 : Below W.heap.size W w6 := b5.trans (he6.below b5.size (by omega))
          replace hr := (hr.below (he6.below (B := W.heap.size) (by omega) (by omega)) (Nat.le_refl _))
          replace y := y.keep he6 (by omega)
          replace res_f0 := (he6.frozen res_0 (by simp only; omega)).trans res_f0
          replace res_f1 := (he6.frozen res_1 (by simp only; omega)).trans res_f1
          replace res_f2 := (he6.frozen res_2 (by simp only; omega)).trans res_f2
          replace h7 := he6.cell h7 (by simp only; omega)
          replace res_0 := he6.cell res_0 (by simp only; omega)
          replace res_1 := he6.cell res_1 (by simp only; omega)
          replace res_2 := he6.cell res_2 (by simp only; omega)
          replace s_0 := he6.cell s_0 (by simp only; omega)
          replace s_1 := he6.cell s_1 (by simp only; omega)
          replace s_2 := he6.cell s_2 (by simp only; omega)
          replace res_l := Nat.lt_of_lt_of_le res_l hz6
          replace s_l := Nat.lt_of_lt_of_le s_l hz6
          clear hb
          have r1 : OwnB w6 _ _ Ar 128 cr (secBytes Q P m ((l.drop 8).take m)) := r
          have hc1 := (OwnB.rd r1 (B := w6.heap.size) (by omega)).str 27 5 cr Try.underlying27 Try.underlying5 9 Try.underlying9
          have hc2 := hr.str 27 5 c Try.underlying27 Try.underlying5 9 Try.underlying9
          have HG := Lib.hid (good_eq (l := l) (by unfold rdB; rw [HQ.out, HP.out, HM.out]; exact heq))
          have hne := (beq_toListBytes _ _).symm.trans (bstr_other heq)
          obtain ⟨s1, hs1x⟩ : ∃ s, bstr (secBytes Q P m ((l.drop 8).take m)) = s := ⟨_, rfl⟩
          obtain ⟨s2, hs2x⟩ : ∃ s, bstr l = s := ⟨_, rfl⟩
          rw [hs1x] at hc1 hne
          rw [hs2x] at hc2 hne
          clear hs1x hs2x
          go_wp2
          refine bodyPost_ret (v := .tuple #[.agg #[.int .i64 0, .int .i64 0, .slice none 0 0], .bool false]) (by simp [results, Try.results84, go_sem, *]) rfl ?_
          refine SecR.no HG.out ?_
          repeat' (first | exact Below.refl _ _ | (refine Below.alloc ?_ ?_ _) | (refine Below.drew ?_) | (refine Below.setCell ?_ ?_ _) | (refine Below.trans ?_ (Below.mono (by assumption) ?_)) | omega | (simp; omega) | (simp; done) | exact Below.size (by assumption) | (refine Nat.le_trans ?_ (Below.size (by assumption))))
  · have HG := Lib.hid (good_len (l := l) (by omega))
    have hnb : ((n : Int) != 128) = true := by simp; omega
    clear hn
    go_enter Try.func84, Try.ntmps84
    go_wp2
    refine bodyPost_ret (v := .tuple #[.agg #[.int .i64 0, .int .i64 0, .slice none 0 0], .bool false]) (by simp [results, Try.results84, go_sem, *]) rfl ?_
    refine SecR.no HG.out ?_
    repeat' (first | exact Below.refl _ _ | (refine Below.alloc ?_ ?_ _) | (refine Below.drew ?_) | (refine Below.setCell ?_ ?_ _) | (refine Below.trans ?_ (Below.mono (by assumption) ?_)) | omega | (simp; omega) | (simp; done) | exact Below.size (by assumption) | (refine Nat.le_trans ?_ (Below.size (by assumption))))
set_option maxHeartbeats 4000000 in
set_option maxRecDepth 100000 in
theorem spec_SectorRead_not (q p m : Int) (q1 p1 m1 : Bool) (A : Option Addr) (n c : Nat) (l : List UInt8) (_hnc : n ≤ c) (hn : n ≤ 1099511627776) (HQ : Hid (getNum l 1 3 = (q, q1))) (HP : Hid (getNum l 4 3 = (p, p1))) (HM : Hid (getNum l 7 1 = (m, m1)))
    (hT : 100 < m ∨ (m ≤ 100 ∧ n ≠ 128)) (HG : Hid (secGood l = false)) (heq : secBytes q.toNat p.toNat 0 [] ≠ l) (W : World) (hr : Rd W W.heap.size 1 A n (Lib.byteCells l)) : Calls Try.prog 68 #[.slice A n c] W (SecR l W) := by
  rcases hok : secOk q p 0 with _ | _
  · rcases hT with hT | ⟨hT, hT2⟩
    · skip
      obtain ⟨i0, hi0, hj0, hj1, hj2⟩ := info_parts info_u8
      go_enter Try.func68, Try.ntmps68
      go_wp2_with fail
      have he1 : Eff 0 0 W (W.alloc (.cells #[.int .i64 0, .int .i64 0, .slice none 0 0] 91)) := Eff.alloc _ _
      have hs1 : (W.alloc (.cells #[.int .i64 0, .int .i64 0, .slice none 0 0] 91)).heap.size = W.heap.size + 1 := (by simp)
      have res_0 : (W.alloc (.cells #[.int .i64 0, .int .i64 0, .slice none 0 0] 91)).cell? ⟨W.heap.size, 0, none⟩ = some (.int .i64 0) := var_cell _ _ _ _ _ rfl
      have res_1 : (W.alloc (.cells #[.int .i64 0, .int .i64 0, .slice none 0 0] 91)).cell? ⟨W.heap.size, 1, none⟩ = some (.int .i64 0) := var_cell _ _ _ _ _ rfl
      have res_2 : (W.alloc (.cells #[.int .i64 0, .int .i64 0, .slice none 0 0] 91)).cell? ⟨W.heap.size, 2, none⟩ = some (.slice none 0 0) := var_cell _ _ _ _ _ rfl
      have res_f0 : (W.alloc (.cells #[.int .i64 0, .int .i64 0, .slice none 0 0] 91)).frozen? ⟨W.heap.size, 0, none⟩ = false := var_frozen _ _ _ _
      have res_f1 : (W.alloc (.cells #[.int .i64 0, .int .i64 0, .slice none 0 0] 91)).frozen? ⟨W.heap.size, 1, none⟩ = false := var_frozen _ _ _ _
      have res_f2 : (W.alloc (.cells #[.int .i64 0, .int .i64 0, .slice none 0 0] 91)).frozen? ⟨W.heap.size, 2, none⟩ = false := var_frozen _ _ _ _
      generalize (W.alloc (.cells #[.int .i64 0, .int .i64 0, .slice none 0 0] 91)) = w1 at *
      have hz1 : W.heap.size ≤ w1.heap.size := he1.size
      have b1 : Below W.heap.size W w1 := he1.below (Nat.le_refl _) (by omega)
      replace hr := (hr.below (he1.below (B := W.heap.size) (by omega) (by omega)) (Nat.le_refl _))
      have res_l : W.heap.size < w1.heap.size := (by omega)
      have he2 : Eff 0 0 w1 (w1.alloc (.cells #[.int .i64 0, .int .i64 0, .slice none 0 0] 91)) := Eff.alloc _ _
      have hs2 : (w1.alloc (.cells #[.int .i64 0, .int .i64 0, .slice none 0 0] 91)).heap.size = w1.heap.size + 1 := (by simp)
      have s_0 : (w1.alloc (.cells #[.int .i64 0, .int .i64 0, .slice none 0 0] 91)).cell? ⟨w1.heap.size, 0, none⟩ = some (.int .i64 0) := var_cell _ _ _ _ _ rfl
      have s_1 : (w1.alloc (.cells #[.int .i64 0, .int .i64 0, .slice none 0 0] 91)).cell? ⟨w1.heap.size, 1, none⟩ = some (.int .i64 0) := var_cell _ _ _ _ _ rfl
      have s_2 : (w1.alloc (.cells #[.int .i64 0, .int .i64 0, .slice none 0 0] 91)).cell? ⟨w1.heap.size, 2, none⟩ = some (.slice none 0 0) := var_cell _ _ _ _ _ rfl
      have s_f0 : (w1.alloc (.cells #[.int .i64 0, .int .i64 0, .slice none 0 0] 91)).frozen? ⟨w1.heap.size, 0, none⟩ = false := var_frozen _ _ _ _
      have s_f1 : (w1.alloc (.cells #[.int .i64 0, .int .i64 0, .slice none 0 0] 91)).frozen? ⟨w1.heap.size, 1, none⟩ = false := var_frozen _ _ _ _
      have s_f2 : (w1.alloc (.cells #[.int .i64 0, .int .i64 0, .slice none 0 0] 91)).frozen? ⟨w1.heap.size, 2, none⟩ = false := var_frozen _ _ _ _
      generalize (w1.alloc (.cells #[.int .i64 0, .int .i64 0, .slice none 0 0] 91)) = w2 at *
      have hz2 : w1.heap.size ≤ w2.heap.size := he2.size
      have b2 : Below W.heap.size W w2 := b1.trans (he2.below b1.size (by omega))
      replace hr := (hr.below (he2.below (B := W.heap.size) (by omega) (by omega)) (Nat.le_refl _))
      replace res_f0 := (he2.frozen res_0 (by simp only; omega)).trans res_f0
      replace res_f1 := (he2.frozen res_1 (by simp only; omega)).trans res_f1
      replace res_f2 := (he2.frozen res_2 (by simp only; omega)).trans res_f2
      replace res_0 := he2.cell res_0 (by simp only; omega)
      replace res_1 := he2.cell res_1 (by simp only; omega)
      replace res_2 := he2.cell res_2 (by simp only; omega)
      replace res_l := Nat.lt_of_lt_of_le res_l hz2
      rw [hs1] at s_0 s_f0
      rw [hs1] at s_1 s_f1
      rw [hs1] at s_2 s_f2
      have s_l : W.heap.size + 1 < w2.heap.size := (by omega)
      refine (spec_GetNum _ n _ l 1 3 (by omega) w2 (hr.more (by omega))).mono ?_
      rintro e w3 ⟨rfl, hb⟩
      have he3 : Eff 0 0 w2 w3 := Eff.of hb
      have hz3 : w2.heap.size ≤ w3.heap.size := he3.size
      have b3 : Below W.heap.size W w3 := b2.trans (he3.below b2.size (by omega))
      replace hr := (hr.below (he3.below (B := W.heap.size) (by omega) (by omega)) (Nat.le_refl _))
      replace res_f0 := (he3.frozen res_0 (by simp only; omega)).trans res_f0
      replace res_f1 := (he3.frozen res_1 (by simp only; omega)).trans res_f1
      replace res_f2 := (he3.frozen res_2 (by simp only; omega)).trans res_f2
      replace s_f0 := (he3.frozen s_0 (by simp only; omega)).trans s_f0
      replace s_f1 := (he3.frozen s_1 (by simp only; omega)).trans s_f1
      replace s_f2 := (he3.frozen s_2 (by simp only; omega)).trans s_f2
      replace res_0 := he3.cell res_0 (by simp only; omega)
      replace res_1 := he3.cell res_1 (by simp only; omega)
      replace res_2 := he3.cell res_2 (by simp only; omega)
      replace s_0 := he3.cell s_0 (by simp only; omega)
      replace s_1 := he3.cell s_1 (by simp only; omega)
      replace s_2 := he3.cell s_2 (by simp only; omega)
      replace res_l := Nat.lt_of_lt_of_le res_l hz3
      replace s_l := Nat.lt_of_lt_of_le s_l hz3
      clear hb
      rw [HQ.out]
      go_wp2_with fail
      have he4 : Eff (W.heap.size + 1) (W.heap.size + 1 + 1) w3 (w3.setCell ⟨W.heap.size + 1, 0, none⟩ (.int .i64 q)) := eff_set _ _ _ _
      replace res_f0 := (he4.frozen res_0 (by simp only; omega)).trans res_f0
      replace res_f1 := (he4.frozen res_1 (by simp only; omega)).trans res_f1
      replace res_f2 := (he4.frozen res_2 (by simp only; omega)).trans res_f2
      replace s_f0 := set_frozen (p := ⟨W.heap.size + 1, 0, none⟩) s_f0 (.int .i64 q)
      replace s_f1 := set_frozen (p := ⟨W.heap.size + 1, 0, none⟩) s_f1 (.int .i64 q)
      replace s_f2 := set_frozen (p := ⟨W.heap.size + 1, 0, none⟩) s_f2 (.int .i64 q)
      replace res_0 := he4.cell res_0 (by simp only; omega)
      replace res_1 := he4.cell res_1 (by simp only; omega)
      replace res_2 := he4.cell res_2 (by simp only; omega)
      replace s_0 := set_same s_0 (.int .i64 q)
      replace s_1 := set_other (b' := W.heap.size + 1) (o' := 0) s_1 (.int .i64 q) (.inr (by omega))
      replace s_2 := set_other (b' := W.heap.size + 1) (o' := 0) s_2 (.int .i64 q) (.inr (by omega))
      have hz4 : w3.heap.size ≤ (w3.setCell ⟨W.heap.size + 1, 0, none⟩ (.int .i64 q)).heap.size := he4.size
      generalize (w3.setCell ⟨W.heap.size + 1, 0, none⟩ (.int .i64 q)) = w4 at *
      have b4 : Below W.heap.size W w4 := b3.trans (he4.below b3.size (by omega))
      replace hr := (hr.below (he4.below (B := W.heap.size) (by omega) (by omega)) (Nat.le_refl _))
      replace res_l := Nat.lt_of_lt_of_le res_l hz4
      replace s_l := Nat.lt_of_lt_of_le s_l hz4
      refine (spec_GetNum _ n _ l 4 3 (by omega) w4 (hr.more (by omega))).mono ?_
      rintro e w5 ⟨rfl, hb⟩
      have he5 : Eff 0 0 w4 w5 := Eff.of hb
      have hz5 : w4.heap.size ≤ w5.heap.size := he5.size
      have b5 : Below W.heap.size W w5 := b4.trans (he5.below b4.size (by omega))
      replace hr := (hr.below (he5.below (B := W.heap.size) (by omega) (by omega)) (Nat.le_refl _))
      replace res_f0 := (he5.frozen res_0 (by simp only; omega)).trans res_f0
      replace res_f1 := (he5.frozen res_1 (by simp only; omega)).trans res_f1
      replace res_f2 := (he5.frozen res_2 (by simp only; omega)).trans res_f2
      replace s_f0 := (he5.frozen s_0 (by simp only; omega)).trans s_f0
      replace s_f1 := (he5.frozen s_1 (by simp only; omega)).trans s_f1
      replace s_f2 := (he5.frozen s_2 (by simp only; omega)).trans s_f2
      replace res_0 := he5.cell res_0 (by simp only; omega)
      replace res_1 := he5.cell res_1 (by simp only; omega)
      replace res_2 := he5.cell res_2 (by simp only; omega)
      replace s_0 := he5.cell s_0 (by simp only; omega)
      replace s_1 := he5.cell s_1 (by simp only; omega)
      replace s_2 := he5.cell s_2 (by simp only; omega)
      replace res_l := Nat.lt_of_lt_of_le res_l hz5
      replace s_l := Nat.lt_of_lt_of_le s_l hz5
      clear hb
      rw [HP.out]
      go_wp2_with fail
      have he6 : Eff (W.heap.size + 1) (W.heap.size + 1 + 1) w5 (w5.setCell ⟨W.heap.size + 1, 1, none⟩ (.int .i64 p)) := eff_set _ _ _ _
      replace res_f0 := (he6.frozen res_0 (by simp only; omega)).trans res_f0
      replace res_f1 := (he6.frozen res_1 (by simp only; omega)).trans res_f1
      replace res_f2 := (he6.frozen res_2 (by simp only; omega)).trans res_f2
      replace s_f0 := set_frozen (p := ⟨W.heap.size + 1, 1, none⟩) s_f0 (.int .i64 p)
      replace s_f1 := set_frozen (p := ⟨W.heap.size + 1, 1, none⟩) s_f1 (.int .i64 p)
      replace s_f2 := set_frozen (p := ⟨W.heap.size + 1, 1, none⟩) s_f2 (.int .i64 p)
      replace res_0 := he6.cell res_0 (by simp only; omega)
      replace res_1 := he6.cell res_1 (by simp only; omega)
      replace res_2 := he6.cell res_2 (by simp only; omega)
      replace s_0 := set_other (b' := W.heap.size + 1) (o' := 1) s_0 (.int .i64 p) (.inr (by omega))
      replace s_1 := set_same s_1 (.int .i64 p)
      replace s_2 := set_other (b' := W.heap.size + 1) (o' := 1) s_2 (.int .i64 p) (.inr (by omega))
      have hz6 : w5.heap.size ≤ (w5.setCell ⟨W.heap.size + 1, 1, none⟩ (.int .i64 p)).heap.size := he6.size
      generalize (w5.setCell ⟨W.heap.size + 1, 1, none⟩ (.int .i64 p)) = w6 at *
      have b6 : Below W.heap.size W w6 := b5.trans (he6.below b5.size (by omega))
      replace hr := (hr.below (he6.below (B := W.heap.size) (by omega) (by omega)) (Nat.le_refl _))
      replace res_l := Nat.lt_of_lt_of_le res_l hz6
      replace s_l := Nat.lt_of_lt_of_le s_l hz6
      refine (spec_GetNum _ n _ l 7 1 (by omega) w6 (hr.more (by omega))).mono ?_
      rintro e w7 ⟨rfl, hb⟩
      have he7 : Eff 0 0 w6 w7 := Eff.of hb
      have hz7 : w6.heap.size ≤ w7.heap.size := he7.size
      have b7 : Below W.heap.size W w7 := b6.trans (he7.below b6.size (by omega))
      replace hr := (hr.below (he7.below (B := W.heap.size) (by omega) (by omega)) (Nat.le_refl _))
      replace res_f0 := (he7.frozen res_0 (by simp only; omega)).trans res_f0
      replace res_f1 := (he7.frozen res_1 (by simp only; omega)).trans res_f1
      replace res_f2 := (he7.frozen res_2 (by simp only; omega)).trans res_f2
      replace s_f0 := (he7.frozen s_0 (by simp only; omega)).trans s_f0
      replace s_f1 := (he7.frozen s_1 (by simp only; omega)).trans s_f1
      replace s_f2 := (he7.frozen s_2 (by simp only; omega)).trans s_f2
      replace res_0 := he7.cell res_0 (by simp only; omega)
      replace res_1 := he7.cell res_1 (by simp only; omega)
      replace res_2 := he7.cell res_2 (by simp only; omega)
      replace s_0 := he7.cell s_0 (by simp only; omega)
      replace s_1 := he7.cell s_1 (by simp only; omega)
      replace s_2 := he7.cell s_2 (by simp only; omega)
      replace res_l := Nat.lt_of_lt_of_le res_l hz7
      replace s_l := Nat.lt_of_lt_of_le s_l hz7
      clear hb
      rw [HM.out]
      go_wp2_with fail
      refine (spec_SectorBytes q p none 0 0 [] (by omega) w7 Rd.nil).mono ?_
      rintro e w8 hpost
      rw [hok] at hpost
      obtain ⟨rfl, hb⟩ := hpost.not
      clear hpost
      have he8 : Eff 0 0 w7 w8 := Eff.of hb
      have hz8 : w7.heap.size ≤ w8.heap.size := he8.size
      have b8 : Below W.heap.size W w8 := b7.trans (he8.below b7.size (by omega))
      replace hr := (hr.below (he8.below (B := W.heap.size) (by omega) (by omega)) (Nat.le_refl _))
      replace res_f0 := (he8.frozen res_0 (by simp only; omega)).trans res_f0
      replace res_f1 := (he8.frozen res_1 (by simp only; omega)).trans res_f1
      replace res_f2 := (he8.frozen res_2 (by simp only; omega)).trans res_f2
      replace s_f0 := (he8.frozen s_0 (by simp only; omega)).trans s_f0
      replace s_f1 := (he8.frozen s_1 (by simp only; omega)).trans s_f1
      replace s_f2 := (he8.frozen s_2 (by simp only; omega)).trans s_f2
      replace res_0 := he8.cell res_0 (by simp only; omega)
      replace res_1 := he8.cell res_1 (by simp only; omega)
      replace res_2 := he8.cell res_2 (by simp only; omega)
      replace s_0 := he8.cell s_0 (by simp only; omega)
      replace s_1 := he8.cell s_1 (by simp only; omega)
      replace s_2 := he8.cell s_2 (by simp only; omega)
      replace res_l := Nat.lt_of_lt_of_le res_l hz8
      replace s_l := Nat.lt_of_lt_of_le s_l hz8
      clear hb
      go_wp2
      refine bodyPost_ret (v := .tuple #[.agg #[.int .i64 0, .int .i64 0, .slice none 0 0], .bool false]) (by simp [results, Try.results68, go_sem, *]) rfl ?_
      refine SecR.no HG.out ?_
      repeat' (first | exact Below.refl _ _ | (refine Below.alloc ?_ ?_ _) | (refine Below.drew ?_) | (refine Below.setCell ?_ ?_ _) | (refine Below.trans ?_ (Below.mono (by assumption) ?_)) | omega | (simp; omega) | (simp; done) | exact Below.size (by assumption) | (refine Nat.le_trans ?_ (Below.size (by assumption))))
    · have hnb : ((n : Int) == 128) = false := by simp; omega
      obtain ⟨i0, hi0, hj0, hj1, hj2⟩ := info_parts info_u8
      go_enter Try.func68, Try.ntmps68
      go_wp2_with fail
      have he1 : Eff 0 0 W (W.alloc (.cells #[.int .i64 0, .int .i64 0, .slice none 0 0] 91)) := Eff.alloc _ _
      have hs1 : (W.alloc (.cells #[.int .i64 0, .int .i64 0, .slice none 0 0] 91)).heap.size = W.heap.size + 1 := (by simp)
      have res_0 : (W.alloc (.cells #[.int .i64 0, .int .i64 0, .slice none 0 0] 91)).cell? ⟨W.heap.size, 0, none⟩ = some (.int .i64 0) := var_cell _ _ _ _ _ rfl
      have res_1 : (W.alloc (.cells #[.int .i64 0, .int .i64 0, .slice none 0 0] 91)).cell? ⟨W.heap.size, 1, none⟩ = some (.int .i64 0) := var_cell _ _ _ _ _ rfl
      have res_2 : (W.alloc (.cells #[.int .i64 0, .int .i64 0, .slice none 0 0] 91)).cell? ⟨W.heap.size, 2, none⟩ = some (.slice none 0 0) := var_cell _ _ _ _ _ rfl
      have res_f0 : (W.alloc (.cells #[.int .i64 0, .int .i64 0, .slice none 0 0] 91)).frozen? ⟨W.heap.size, 0, none⟩ = false := var_frozen _ _ _ _
      have res_f1 : (W.alloc (.cells #[.int .i64 0, .int .i64 0, .slice none 0 0] 91)).frozen? ⟨W.heap.size, 1, none⟩ = false := var_frozen _ _ _ _
      have res_f2 : (W.alloc (.cells #[.int .i64 0, .int .i64 0, .slice none 0 0] 91)).frozen? ⟨W.heap.size, 2, none⟩ = false := var_frozen _ _ _ _
      generalize (W.alloc (.cells #[.int .i64 0, .int .i64 0, .slice none 0 0] 91)) = w1 at *
      have hz1 : W.heap.size ≤ w1.heap.size := he1.size
      have b1 : Below W.heap.size W w1 := he1.below (Nat.le_refl _) (by omega)
      replace hr := (hr.below (he1.below (B := W.heap.size) (by omega) (by omega)) (Nat.le_refl _))
      have res_l : W.heap.size < w1.heap.size := (by omega)
      have he2 : Eff 0 0 w1 (w1.alloc (.cells #[.int .i64 0, .int .i64 0, .slice none 0 0] 91)) := Eff.alloc _ _
      have hs2 : (w1.alloc (.cells #[.int .i64 0, .int .i64 0, .slice none 0 0] 91)).heap.size = w1.heap.size + 1 := (by simp)
      have s_0 : (w1.alloc (.cells #[.int .i64 0, .int .i64 0, .slice none 0 0] 91)).cell? ⟨w1.heap.size, 0, none⟩ = some (.int .i64 0) := var_cell _ _ _ _ _ rfl
      have s_1 : (w1.alloc (.cells #[.int .i64 0, .int .i64 0, .slice none 0 0] 91)).cell? ⟨w1.heap.size, 1, none⟩ = some (.int .i64 0) := var_cell _ _ _ _ _ rfl
      have s_2 : (w1.alloc (.cells #[.int .i64 0, .int .i64 0, .slice none 0 0] 91)).cell? ⟨w1.heap.size, 2, none⟩ = some (.slice none 0 0) := var_cell _ _ _ _ _ rfl
      have s_f0 : (w1.alloc (.cells #[.int .i64 0, .int .i64 0, .slice none 0 0] 91)).frozen? ⟨w1.heap.size, 0, none⟩ = false := var_frozen _ _ _ _
      have s_f1 : (w1.alloc (.cells #[.int .i64 0, .int .i64 0, .slice none 0 0] 91)).frozen? ⟨w1.heap.size, 1, none⟩ = false := var_frozen _ _ _ _
      have s_f2 : (w1.alloc (.cells #[.int .i64 0, .int .i64 0, .slice none 0 0] 91)).frozen? ⟨w1.heap.size, 2, none⟩ = false := var_frozen _ _ _ _
      generalize (w1.alloc (.cells #[.int .i64 0, .int .i64 0, .slice none 0 0] 91)) = w2 at *
      have hz2 : w1.heap.size ≤ w2.heap.size := he2.size
      have b2 : Below W.heap.size W w2 := b1.trans (he2.below b1.size (by omega))
      replace hr := (hr.below (he2.below (B := W.heap.size) (by omega) (by omega)) (Nat.le_refl _))
      replace res_f0 := (he2.frozen res_0 (by simp only; omega)).trans res_f0
      replace res_f1 := (he2.frozen res_1 (by simp only; omega)).trans res_f1
      replace res_f2 := (he2.frozen res_2 (by simp only; omega)).trans res_f2
      replace res_0 := he2.cell res_0 (by simp only; omega)
      replace res_1 := he2.cell res_1 (by simp only; omega)
      replace res_2 := he2.cell res_2 (by simp only; omega)
      replace res_l := Nat.lt_of_lt_of_le res_l hz2
      rw [hs1] at s_0 s_f0
      rw [hs1] at s_1 s_f1
      rw [hs1] at s_2 s_f2
      have s_l : W.heap.size + 1 < w2.heap.size := (by omega)
      refine (spec_GetNum _ n _ l 1 3 (by omega) w2 (hr.more (by omega))).mono ?_
      rintro e w3 ⟨rfl, hb⟩
      have he3 : Eff 0 0 w2 w3 := Eff.of hb
      have hz3 : w2.heap.size ≤ w3.heap.size := he3.size
      have b3 : Below W.heap.size W w3 := b2.trans (he3.below b2.size (by omega))
      replace hr := (hr.below (he3.below (B := W.heap.size) (by omega) (by omega)) (Nat.le_refl _))
      replace res_f0 := (he3.frozen res_0 (by simp only; omega)).trans res_f0
      replace res_f1 := (he3.frozen res_1 (by simp only; omega)).trans res_f1
      replace res_f2 := (he3.frozen res_2 (by simp only; omega)).trans res_f2
      replace s_f0 := (he3.frozen s_0 (by simp only; omega)).trans s_f0
      replace s_f1 := (he3.frozen s_1 (by simp only; omega)).trans s_f1
      replace s_f2 := (he3.frozen s_2 (by simp only; omega)).trans s_f2
      replace res_0 := he3.cell res_0 (by simp only; omega)
      replace res_1 := he3.cell res_1 (by simp only; omega)
      replace res_2 := he3.cell res_2 (by simp only; omega)
      replace s_0 := he3.cell s_0 (by simp only; omega)
      replace s_1 := he3.cell s_1 (by simp only; omega)
      replace s_2 := he3.cell s_2 (by simp only; omega)
      replace res_l := Nat.lt_of_lt_of_le res_l hz3
      replace s_l := Nat.lt_of_lt_of_le s_l hz3
      clear hb
      rw [HQ.out]
      go_wp2_with fail
      have he4 : Eff (W.heap.size + 1) (W.heap.size + 1 + 1) w3 (w3.setCell ⟨W.heap.size + 1, 0, none⟩ (.int .i64 q)) := eff_set _ _ _ _
      replace res_f0 := (he4.frozen res_0 (by simp only; omega)).trans res_f0
      replace res_f1 := (he4.frozen res_1 (by simp only; omega)).trans res_f1
      replace res_f2 := (he4.frozen res_2 (by simp only; omega)).trans res_f2
      replace s_f0 := set_frozen (p := ⟨W.heap.size + 1, 0, none⟩) s_f0 (.int .i64 q)
      replace s_f1 := set_frozen (p := ⟨W.heap.size + 1, 0, none⟩) s_f1 (.int .i64 q)
      replace s_f2 := set_frozen (p := ⟨W.heap.size + 1, 0, none⟩) s_f2 (.int .i64 q)
      replace res_0 := he4.cell res_0 (by simp only; omega)
      replace res_1 := he4.cell res_1 (by simp only; omega)
      replace res_2 := he4.cell res_2 (by simp only; omega)
      replace s_0 := set_same s_0 (.int .i64 q)
      replace s_1 := set_other (b' := W.heap.size + 1) (o' := 0) s_1 (.int .i64 q) (.inr (by omega))
      replace s_2 := set_other (b' := W.heap.size + 1) (o' := 0) s_2 (.int .i64 q) (.inr (by omega))
      have hz4 : w3.heap.size ≤ (w3.setCell ⟨W.heap.size + 1, 0, none⟩ (.int .i64 q)).heap.size := he4.size
      generalize (w3.setCell ⟨W.heap.size + 1, 0, none⟩ (.int .i64 q)) = w4 at *
      have b4 : Below W.heap.size W w4 := b3.trans (he4.below b3.size (by omega))
      replace hr := (hr.below (he4.below (B := W.heap.size) (by omega) (by omega)) (Nat.le_refl _))
      replace res_l := Nat.lt_of_lt_of_le res_l hz4
      replace s_l := Nat.lt_of_lt_of_le s_l hz4
      refine (spec_GetNum _ n _ l 4 3 (by omega) w4 (hr.more (by omega))).mono ?_
      rintro e w5 ⟨rfl, hb⟩
      have he5 : Eff 0 0 w4 w5 := Eff.of hb
      have hz5 : w4.heap.size ≤ w5.heap.size := he5.size
      have b5 : Below W.heap.size W w5 := b4.trans (he5.below b4.size (by omega))
      replace hr := (hr.below (he5.below (B := W.heap.size) (by omega) (by omega)) (Nat.le_refl _))
      replace res_f0 := (he5.frozen res_0 (by simp only; omega)).trans res_f0
      replace res_f1 := (he5.frozen res_1 (by simp only; omega)).trans res_f1
      replace res_f2 := (he5.frozen res_2 (by simp only; omega)).trans res_f2
      replace s_f0 := (he5.frozen s_0 (by simp only; omega)).trans s_f0
      replace s_f1 := (he5.frozen s_1 (by simp only; omega)).trans s_f1
      replace s_f2 := (he5.frozen s_2 (by simp only; omega)).trans s_f2
      replace res_0 := he5.cell res_0 (by simp only; omega)
      replace res_1 := he5.cell res_1 (by simp only; omega)
      replace res_2 := he5.cell res_2 (by simp only; omega)
      replace s_0 := he5.cell s_0 (by simp only; omega)
      replace s_1 := he5.cell s_1 (by simp only; omega)
      replace s_2 := he5.cell s_2 (by simp only; omega)
      replace res_l := Nat.lt_of_lt_of_le res_l hz5
      replace s_l := Nat.lt_of_lt_of_le s_l hz5
      clear hb
      rw [HP.out]
      go_wp2_with fail
      have he6 : Eff (W.heap.size + 1) (W.heap.size + 1 + 1) w5 (w5.setCell ⟨W.heap.size + 1, 1, none⟩ (.int .i64 p)) := eff_set _ _ _ _
      replace res_f0 := (he6.frozen res_0 (by simp only; omega)).trans res_f0
      replace res_f1 := (he6.frozen res_1 (by simp only; omega)).trans res_f1
      replace res_f2 := (he6.frozen res_2 (by simp only; omega)).trans res_f2
      replace s_f0 := set_frozen (p := ⟨W.heap.size + 1, 1, none⟩) s_f0 (.int .i64 p)
      replace s_f1 := set_frozen (p := ⟨W.heap.size + 1, 1, none⟩) s_f1 (.int .i64 p)
      replace s_f2 := set_frozen (p := ⟨W.heap.size + 1, 1, none⟩) s_f2 (.int .i64 p)
      replace res_0 := he6.cell res_0 (by simp only; omega)
      replace res_1 := he6.cell res_1 (by simp only; omega)
      replace res_2 := he6.cell res_2 (by simp only; omega)
      replace s_0 := set_other (b' := W.heap.size + 1) (o' := 1) s_0 (.int .i64 p) (.inr (by omega))
      replace s_1 := set_same s_1 (.int .i64 p)
      replace s_2 := set_other (b' := W.heap.size + 1) (o' := 1) s_2 (.int .i64 p) (.inr (by omega))
      have hz6 : w5.heap.size ≤ (w5.setCell ⟨W.heap.size + 1, 1, none⟩ (.int .i64 p)).heap.size := he6.size
      generalize (w5.setCell ⟨W.heap.size + 1, 1, none⟩ (.int .i64 p)) = w6 at *
      have b6 : Below W.heap.size W w6 := b5.trans (he6.below b5.size (by omega))
      replace hr := (hr.below (he6.below (B := W.heap.size) (by omega) (by omega)) (Nat.le_refl _))
      replace res_l := Nat.lt_of_lt_of_le res_l hz6
      replace s_l := Nat.lt_of_lt_of_le s_l hz6
      refine (spec_GetNum _ n _ l 7 1 (by omega) w6 (hr.more (by omega))).mono ?_
      rintro e w7 ⟨rfl, hb⟩
      have he7 : Eff 0 0 w6 w7 := Eff.of hb
      have hz7 : w6.heap.size ≤ w7.heap.size := he7.size
      have b7 : Below W.heap.size W w7 := b6.trans (he7.below b6.size (by omega))
      replace hr := (hr.below (he7.below (B := W.heap.size) (by omega) (by omega)) (Nat.le_refl _))
      replace res_f0 := (he7.frozen res_0 (by simp only; omega)).trans res_f0
      replace res_f1 := (he7.frozen res_1 (by simp only; omega)).trans res_f1
      replace res_f2 := (he7.frozen res_2 (by simp only; omega)).trans res_f2
      replace s_f0 := (he7.frozen s_0 (by simp only; omega)).trans s_f0
      replace s_f1 := (he7.frozen s_1 (by simp only; omega)).trans s_f1
      replace s_f2 := (he7.frozen s_2 (by simp only; omega)).trans s_f2
      replace res_0 := he7.cell res_0 (by simp only; omega)
      replace res_1 := he7.cell res_1 (by simp only; omega)
      replace res_2 := he7.cell res_2 (by simp only; omega)
      replace s_0 := he7.cell s_0 (by simp only; omega)
      replace s_1 := he7.cell s_1 (by simp only; omega)
      replace s_2 := he7.cell s_2 (by simp only; omega)
      replace res_l := Nat.lt_of_lt_of_le res_l hz7
      replace s_l := Nat.lt_of_lt_of_le s_l hz7
      clear hb
      rw [HM.out]
      go_wp2_with fail
      refine (spec_SectorBytes q p none 0 0 [] (by omega) w7 Rd.nil).mono ?_
      rintro e w8 hpost
      rw [hok] at hpost
      obtain ⟨rfl, hb⟩ := hpost.not
      clear hpost
      have he8 : Eff 0 0 w7 w8 := Eff.of hb
      have hz8 : w7.heap.size ≤ w8.heap.size := he8.size
      have b8 : Below W.heap.size W w8 := b7.trans (he8.below b7.size (by omega))
      replace hr := (hr.below (he8.below (B := W.heap.size) (by omega) (by omega)) (Nat.le_refl _))
      replace res_f0 := (he8.frozen res_0 (by simp only; omega)).trans res_f0
      replace res_f1 := (he8.frozen res_1 (by simp only; omega)).trans res_f1
      replace res_f2 := (he8.frozen res_2 (by simp only; omega)).trans res_f2
      replace s_f0 := (he8.frozen s_0 (by simp only; omega)).trans s_f0
      replace s_f1 := (he8.frozen s_1 (by simp only; omega)).trans s_f1
      replace s_f2 := (he8.frozen s_2 (by simp only; omega)).trans s_f2
      replace res_0 := he8.cell res_0 (by simp only; omega)
      replace res_1 := he8.cell res_1 (by simp only; omega)
      replace res_2 := he8.cell res_2 (by simp only; omega)
      replace s_0 := he8.cell s_0 (by simp only; omega)
      replace s_1 := he8.cell s_1 (by simp only; omega)
      replace s_2 := he8.cell s_2 (by simp only; omega)
      replace res_l := Nat.lt_of_lt_of_le res_l hz8
      replace s_l := Nat.lt_of_lt_of_le s_l hz8
      clear hb
      go_wp2
      refine bodyPost_ret (v := .tuple #[.agg #[.int .i64 0, .int .i64 0, .slice none 0 0], .bool false]) (by simp [results, Try.results68, go_sem, *]) rfl ?_
      refine SecR.no HG.out ?_
      repeat' (first | exact Below.refl _ _ | (refine Below.alloc ?_ ?_ _) | (refine Below.drew ?_) | (refine Below.setCell ?_ ?_ _) | (refine Below.trans ?_ (Below.mono (by assumption) ?_)) | omega | (simp; omega) | (simp; done) | exact Below.size (by assumption) | (refine Nat.le_trans ?_ (Below.size (by assumption))))
  · rcases hT with hT | ⟨hT, hT2⟩
    · skip
      obtain ⟨i0, hi0, hj0, hj1, hj2⟩ := info_parts info_u8
      go_enter Try.func68, Try.ntmps68
      go_wp2_with fail
      have he1 : Eff 0 0 W (W.alloc (.cells #[.int .i64 0, .int .i64 0, .slice none 0 0] 91)) := Eff.alloc _ _
      have hs1 : (W.alloc (.cells #[.int .i64 0, .int .i64 0, .slice none 0 0] 91)).heap.size = W.heap.size + 1 := (by simp)
      have res_0 : (W.alloc (.cells #[.int .i64 0, .int .i64 0, .slice none 0 0] 91)).cell? ⟨W.heap.size, 0, none⟩ = some (.int .i64 0) := var_cell _ _ _ _ _ rfl
      have res_1 : (W.alloc (.cells #[.int .i64 0, .int .i64 0, .slice none 0 0] 91)).cell? ⟨W.heap.size, 1, none⟩ = some (.int .i64 0) := var_cell _ _ _ _ _ rfl
      have res_2 : (W.alloc (.cells #[.int .i64 0, .int .i64 0, .slice none 0 0] 91)).cell? ⟨W.heap.size, 2, none⟩ = some (.slice none 0 0) := var_cell _ _ _ _ _ rfl
      have res_f0 : (W.alloc (.cells #[.int .i64 0, .int .i64 0, .slice none 0 0] 91)).frozen? ⟨W.heap.size, 0, none⟩ = false := var_frozen _ _ _ _
      have res_f1 : (W.alloc (.cells #[.int .i64 0, .int .i64 0, .slice none 0 0] 91)).frozen? ⟨W.heap.size, 1, none⟩ = false := var_frozen _ _ _ _
      have res_f2 : (W.alloc (.cells #[.int .i64 0, .int .i64 0, .slice none 0 0] 91)).frozen? ⟨W.heap.size, 2, none⟩ = false := var_frozen _ _ _ _
      generalize (W.alloc (.cells #[.int .i64 0, .int .i64 0, .slice none 0 0] 91)) = w1 at *
      have hz1 : W.heap.size ≤ w1.heap.size := he1.size
      have b1 : Below W.heap.size W w1 := he1.below (Nat.le_refl _) (by omega)
      replace hr := (hr.below (he1.below (B := W.heap.size) (by omega) (by omega)) (Nat.le_refl _))
      have res_l : W.heap.size < w1.heap.size := (by omega)
      have he2 : Eff 0 0 w1 (w1.alloc (.cells #[.int .i64 0, .int .i64 0, .slice none 0 0] 91)) := Eff.alloc _ _
      have hs2 : (w1.alloc (.cells #[.int .i64 0, .int .i64 0, .slice none 0 0] 91)).heap.size = w1.heap.size + 1 := (by simp)
      have s_0 : (w1.alloc (.cells #[.int .i64 0, .int .i64 0, .slice none 0 0] 91)).cell? ⟨w1.heap.size, 0, none⟩ = some (.int .i64 0) := var_cell _ _ _ _ _ rfl
      have s_1 : (w1.alloc (.cells #[.int .i64 0, .int .i64 0, .slice none 0 0] 91)).cell? ⟨w1.heap.size, 1, none⟩ = some (.int .i64 0) := var_cell _ _ _ _ _ rfl
      have s_2 : (w1.alloc (.cells #[.int .i64 0, .int .i64 0, .slice none 0 0] 91)).cell? ⟨w1.heap.size, 2, none⟩ = some (.slice none 0 0) := var_cell _ _ _ _ _ rfl
      have s_f0 : (w1.alloc (.cells #[.int .i64 0, .int .i64 0, .slice none 0 0] 91)).frozen? ⟨w1.heap.size, 0, none⟩ = false := var_frozen _ _ _ _
      have s_f1 : (w1.alloc (.cells #[.int .i64 0, .int .i64 0, .slice none 0 0] 91)).frozen? ⟨w1.heap.size, 1, none⟩ = false := var_frozen _ _ _ _
      have s_f2 : (w1.alloc (.cells #[.int .i64 0, .int .i64 0, .slice none 0 0] 91)).frozen? ⟨w1.heap.size, 2, none⟩ = false := var_frozen _ _ _ _
      generalize (w1.alloc (.cells #[.int .i64 0, .int .i64 0, .slice none 0 0] 91)) = w2 at *
      have hz2 : w1.heap.size ≤ w2.heap.size := he2.size
      have b2 : Below W.heap.size W w2 := b1.trans (he2.below b1.size (by omega))
      replace hr := (hr.below (he2.below (B := W.heap.size) (by omega) (by omega)) (Nat.le_refl _))
      replace res_f0 := (he2.frozen res_0 (by simp only; omega)).trans res_f0
      replace res_f1 := (he2.frozen res_1 (by simp only; omega)).trans res_f1
      replace res_f2 := (he2.frozen res_2 (by simp only; omega)).trans res_f2
      replace res_0 := he2.cell res_0 (by simp only; omega)
      replace res_1 := he2.cell res_1 (by simp only; omega)
      replace res_2 := he2.cell res_2 (by simp only; omega)
      replace res_l := Nat.lt_of_lt_of_le res_l hz2
      rw [hs1] at s_0 s_f0
      rw [hs1] at s_1 s_f1
      rw [hs1] at s_2 s_f2
      have s_l : W.heap.size + 1 < w2.heap.size := (by omega)
      refine (spec_GetNum _ n _ l 1 3 (by omega) w2 (hr.more (by omega))).mono ?_
      rintro e w3 ⟨rfl, hb⟩
      have he3 : Eff 0 0 w2 w3 := Eff.of hb
      have hz3 : w2.heap.size ≤ w3.heap.size := he3.size
      have b3 : Below W.heap.size W w3 := b2.trans (he3.below b2.size (by omega))
      replace hr := (hr.below (he3.below (B := W.heap.size) (by omega) (by omega)) (Nat.le_refl _))
      replace res_f0 := (he3.frozen res_0 (by simp only; omega)).trans res_f0
      replace res_f1 := (he3.frozen res_1 (by simp only; omega)).trans res_f1
      replace res_f2 := (he3.frozen res_2 (by simp only; omega)).trans res_f2
      replace s_f0 := (he3.frozen s_0 (by simp only; omega)).trans s_f0
      replace s_f1 := (he3.frozen s_1 (by simp only; omega)).trans s_f1
      replace s_f2 := (he3.frozen s_2 (by simp only; omega)).trans s_f2
      replace res_0 := he3.cell res_0 (by simp only; omega)
      replace res_1 := he3.cell res_1 (by simp only; omega)
      replace res_2 := he3.cell res_2 (by simp only; omega)
      replace s_0 := he3.cell s_0 (by simp only; omega)
      replace s_1 := he3.cell s_1 (by simp only; omega)
      replace s_2 := he3.cell s_2 (by simp only; omega)
      replace res_l := Nat.lt_of_lt_of_le res_l hz3
      replace s_l := Nat.lt_of_lt_of_le s_l hz3
      clear hb
      rw [HQ.out]
      go_wp2_with fail
      have he4 : Eff (W.heap.size + 1) (W.heap.size + 1 + 1) w3 (w3.setCell ⟨W.heap.size + 1, 0, none⟩ (.int .i64 q)) := eff_set _ _ _ _
      replace res_f0 := (he4.frozen res_0 (by simp only; omega)).trans res_f0
      replace res_f1 := (he4.frozen res_1 (by simp only; omega)).trans res_f1
      replace res_f2 := (he4.frozen res_2 (by simp only; omega)).trans res_f2
      replace s_f0 := set_frozen (p := ⟨W.heap.size + 1, 0, none⟩) s_f0 (.int .i64 q)
      replace s_f1 := set_frozen (p := ⟨W.heap.size + 1, 0, none⟩) s_f1 (.int .i64 q)
      replace s_f2 := set_frozen (p := ⟨W.heap.size + 1, 0, none⟩) s_f2 (.int .i64 q)
      replace res_0 := he4.cell res_0 (by simp only; omega)
      replace res_1 := he4.cell res_1 (by simp only; omega)
      replace res_2 := he4.cell res_2 (by simp only; omega)
      replace s_0 := set_same s_0 (.int .i64 q)
      replace s_1 := set_other (b' := W.heap.size + 1) (o' := 0) s_1 (.int .i64 q) (.inr (by omega))
      replace s_2 := set_other (b' := W.heap.size + 1) (o' := 0) s_2 (.int .i64 q) (.inr (by omega))
      have hz4 : w3.heap.size ≤ (w3.setCell ⟨W.heap.size + 1, 0, none⟩ (.int .i64 q)).heap.size := he4.size
      generalize (w3.setCell ⟨W.heap.size + 1, 0, none⟩ (.int .i64 q)) = w4 at *
      have b4 : Below W.heap.size W w4 := b3.trans (he4.below b3.size (by omega))
      replace hr := (hr.below (he4.below (B := W.heap.size) (by omega) (by omega)) (Nat.le_refl _))
      replace res_l := Nat.lt_of_lt_of_le res_l hz4
      replace s_l := Nat.lt_of_lt_of_le s_l hz4
      refine (spec_GetNum _ n _ l 4 3 (by omega) w4 (hr.more (by omega))).mono ?_
      rintro e w5 ⟨rfl, hb⟩
      have he5 : Eff 0 0 w4 w5 := Eff.of hb
      have hz5 : w4.heap.size ≤ w5.heap.size := he5.size
      have b5 : Below W.heap.size W w5 := b4.trans (he5.below b4.size (by omega))
      replace hr := (hr.below (he5.below (B := W.heap.size) (by omega) (by omega)) (Nat.le_refl _))
      replace res_f0 := (he5.frozen res_0 (by simp only; omega)).trans res_f0
      replace res_f1 := (he5.frozen res_1 (by simp only; omega)).trans res_f1
      replace res_f2 := (he5.frozen res_2 (by simp only; omega)).trans res_f2
      replace s_f0 := (he5.frozen s_0 (by simp only; omega)).trans s_f0
      replace s_f1 := (he5.frozen s_1 (by simp only; omega)).trans s_f1
      replace s_f2 := (he5.frozen s_2 (by simp only; omega)).trans s_f2
      replace res_0 := he5.cell res_0 (by simp only; omega)
      replace res_1 := he5.cell res_1 (by simp only; omega)
      replace res_2 := he5.cell res_2 (by simp only; omega)
      replace s_0 := he5.cell s_0 (by simp only; omega)
      replace s_1 := he5.cell s_1 (by simp only; omega)
      replace s_2 := he5.cell s_2 (by simp only; omega)
      replace res_l := Nat.lt_of_lt_of_le res_l hz5
      replace s_l := Nat.lt_of_lt_of_le s_l hz5
      clear hb
      rw [HP.out]
      go_wp2_with fail
      have he6 : Eff (W.heap.size + 1) (W.heap.size + 1 + 1) w5 (w5.setCell ⟨W.heap.size + 1, 1, none⟩ (.int .i64 p)) := eff_set _ _ _ _
      replace res_f0 := (he6.frozen res_0 (by simp only; omega)).trans res_f0
      replace res_f1 := (he6.frozen res_1 (by simp only; omega)).trans res_f1
      replace res_f2 := (he6.frozen res_2 (by simp only; omega)).trans res_f2
      replace s_f0 := set_frozen (p := ⟨W.heap.size + 1, 1, none⟩) s_f0 (.int .i64 p)
      replace s_f1 := set_frozen (p := ⟨W.heap.size + 1, 1, none⟩) s_f1 (.int .i64 p)
      replace s_f2 := set_frozen (p := ⟨W.heap.size + 1, 1, none⟩) s_f2 (.int .i64 p)
      replace res_0 := he6.cell res_0 (by simp only; omega)
      replace res_1 := he6.cell res_1 (by simp only; omega)
      replace res_2 := he6.cell res_2 (by simp only; omega)
      replace s_0 := set_other (b' := W.heap.size + 1) (o' := 1) s_0 (.int .i64 p) (.inr (by omega))
      replace s_1 := set_same s_1 (.int .i64 p)
      replace s_2 := set_other (b' := W.heap.size + 1) (o' := 1) s_2 (.int .i64 p) (.inr (by omega))
      have hz6 : w5.heap.size ≤ (w5.setCell ⟨W.heap.size + 1, 1, none⟩ (.int .i64 p)).heap.size := he6.size
      generalize (w5.setCell ⟨W.heap.size + 1, 1, none⟩ (.int .i64 p)) = w6 at *
      have b6 : Below W.heap.size W w6 := b5.trans (he6.below b5.size (by omega))
      replace hr := (hr.below (he6.below (B := W.heap.size) (by omega) (by omega)) (Nat.le_refl _))
      replace res_l := Nat.lt_of_lt_of_le res_l hz6
      replace s_l := Nat.lt_of_lt_of_le s_l hz6
      refine (spec_GetNum _ n _ l 7 1 (by omega) w6 (hr.more (by omega))).mono ?_
      rintro e w7 ⟨rfl, hb⟩
      have he7 : Eff 0 0 w6 w7 := Eff.of hb
      have hz7 : w6.heap.size ≤ w7.heap.size := he7.size
      have b7 : Below W.heap.size W w7 := b6.trans (he7.below b6.size (by omega))
      replace hr := (hr.below (he7.below (B := W.heap.size) (by omega) (by omega)) (Nat.le_refl _))
      replace res_f0 := (he7.frozen res_0 (by simp only; omega)).trans res_f0
      replace res_f1 := (he7.frozen res_1 (by simp only; omega)).trans res_f1
      replace res_f2 := (he7.frozen res_2 (by simp only; omega)).trans res_f2
      replace s_f0 := (he7.frozen s_0 (by simp only; omega)).trans s_f0
      replace s_f1 := (he7.frozen s_1 (by simp only; omega)).trans s_f1
      replace s_f2 := (he7.frozen s_2 (by simp only; omega)).trans s_f2
      replace res_0 := he7.cell res_0 (by simp only; omega)
      replace res_1 := he7.cell res_1 (by simp only; omega)
      replace res_2 := he7.cell res_2 (by simp only; omega)
      replace s_0 := he7.cell s_0 (by simp only; omega)
      replace s_1 := he7.cell s_1 (by simp only; omega)
      replace s_2 := he7.cell s_2 (by simp only; omega)
      replace res_l := Nat.lt_of_lt_of_le res_l hz7
      replace s_l := Nat.lt_of_lt_of_le s_l hz7
      clear hb
      rw [HM.out]
      go_wp2_with fail
      refine (spec_SectorBytes q p none 0 0 [] (by omega) w7 Rd.nil).mono ?_
      rintro e w8 hpost
      rw [hok] at hpost
      obtain ⟨Ar, cr, rfl, r, hb⟩ := hpost.yes (N := 128)
      clear hpost
      have he8 : Eff 0 0 w7 w8 := Eff.of hb
      have hz8 : w7.heap.size ≤ w8.heap.size := he8.size
      have b8 : Below W.heap.size W w8 := b7.trans (he8.below b7.size (by omega))
      replace hr := (hr.below (he8.below (B := W.heap.size) (by omega) (by omega)) (Nat.le_refl _))
      replace res_f0 := (he8.frozen res_0 (by simp only; omega)).trans res_f0
      replace res_f1 := (he8.frozen res_1 (by simp only; omega)).trans res_f1
      replace res_f2 := (he8.frozen res_2 (by simp only; omega)).trans res_f2
      replace s_f0 := (he8.frozen s_0 (by simp only; omega)).trans s_f0
      replace s_f1 := (he8.frozen s_1 (by simp only; omega)).trans s_f1
      replace s_f2 := (he8.frozen s_2 (by simp only; omega)).trans s_f2
      replace res_0 := he8.cell res_0 (by simp only; omega)
      replace res_1 := he8.cell res_1 (by simp only; omega)
      replace res_2 := he8.cell res_2 (by simp only; omega)
      replace s_0 := he8.cell s_0 (by simp only; omega)
      replace s_1 := he8.cell s_1 (by simp only; omega)
      replace s_2 := he8.cell s_2 (by simp only; omega)
      replace res_l := Nat.lt_of_lt_of_le res_l hz8
      replace s_l := Nat.lt_of_lt_of_le s_l hz8
      clear hb
      have hc1 := (OwnB.rd r (B := w8.heap.size) (by omega)).str 27 5 cr Try.underlying27 Try.underlying5 9 Try.underlying9
      have hc2 := hr.str 27 5 c Try.underlying27 Try.underlying5 9 Try.underlying9
      have hne := (beq_toListBytes _ _).symm.trans (bstr_other heq)
      obtain ⟨s1, hs1x⟩ : ∃ s, bstr (secBytes q.toNat p.toNat 0 []) = s := ⟨_, rfl⟩
      obtain ⟨s2, hs2x⟩ : ∃ s, bstr l = s := ⟨_, rfl⟩
      rw [hs1x] at hc1 hne
      rw [hs2x] at hc2 hne
      clear hs1x hs2x
      go_wp2
      refine bodyPost_ret (v := .tuple #[.agg #[.int .i64 0, .int .i64 0, .slice none 0 0], .bool false]) (by simp [results, Try.results68, go_sem, *]) rfl ?_
      refine SecR.no HG.out ?_
      repeat' (first | exact Below.refl _ _ | (refine Below.alloc ?_ ?_ _) | (refine Below.drew ?_) | (refine Below.setCell ?_ ?_ _) | (refine Below.trans ?_ (Below.mono (by assumption) ?_)) | omega | (simp; omega) | (simp; done) | exact Below.size (by assumption) | (refine Nat.le_trans ?_ (Below.size (by assumption))))
    · have hnb : ((n : Int) == 128) = false := by simp; omega
      obtain ⟨i0, hi0, hj0, hj1, hj2⟩ := info_parts info_u8
      go_enter Try.func68, Try.ntmps68
      go_wp2_with fail
      have he1 : Eff 0 0 W (W.alloc (.cells #[.int .i64 0, .int .i64 0, .slice none 0 0] 91)) := Eff.alloc _ _
      have hs1 : (W.alloc (.cells #[.int .i64 0, .int .i64 0, .slice none 0 0] 91)).heap.size = W.heap.size + 1 := (by simp)
      have res_0 : (W.alloc (.cells #[.int .i64 0, .int .i64 0, .slice none 0 0] 91)).cell? ⟨W.heap.size, 0, none⟩ = some (.int .i64 0) := var_cell _ _ _ _ _ rfl
      have res_1 : (W.alloc (.cells #[.int .i64 0, .int .i64 0, .slice none 0 0] 91)).cell? ⟨W.heap.size, 1, none⟩ = some (.int .i64 0) := var_cell _ _ _ _ _ rfl
      have res_2 : (W.alloc (.cells #[.int .i64 0, .int .i64 0, .slice none 0 0] 91)).cell? ⟨W.heap.size, 2, none⟩ = some (.slice none 0 0) := var_cell _ _ _ _ _ rfl
      have res_f0 : (W.alloc (.cells #[.int .i64 0, .int .i64 0, .slice none 0 0] 91)).frozen? ⟨W.heap.size, 0, none⟩ = false := var_frozen _ _ _ _
      have res_f1 : (W.alloc (.cells #[.int .i64 0, .int .i64 0, .slice none 0 0] 91)).frozen? ⟨W.heap.size, 1, none⟩ = false := var_frozen _ _ _ _
      have res_f2 : (W.alloc (.cells #[.int .i64 0, .int .i64 0, .slice none 0 0] 91)).frozen? ⟨W.heap.size, 2, none⟩ = false := var_frozen _ _ _ _
      generalize (W.alloc (.cells #[.int .i64 0, .int .i64 0, .slice none 0 0] 91)) = w1 at *
      have hz1 : W.heap.size ≤ w1.heap.size := he1.size
      have b1 : Below W.heap.size W w1 := he1.below (Nat.le_refl _) (by omega)
      replace hr := (hr.below (he1.below (B := W.heap.size) (by omega) (by omega)) (Nat.le_refl _))
      have res_l : W.heap.size < w1.heap.size := (by omega)
      have he2 : Eff 0 0 w1 (w1.alloc (.cells #[.int .i64 0, .int .i64 0, .slice none 0 0] 91)) := Eff.alloc _ _
      have hs2 : (w1.alloc (.cells #[.int .i64 0, .int .i64 0, .slice none 0 0] 91)).heap.size = w1.heap.size + 1 := (by simp)
      have s_0 : (w1.alloc (.cells #[.int .i64 0, .int .i64 0, .slice none 0 0] 91)).cell? ⟨w1.heap.size, 0, none⟩ = some (.int .i64 0) := var_cell _ _ _ _ _ rfl
      have s_1 : (w1.alloc (.cells #[.int .i64 0, .int .i64 0, .slice none 0 0] 91)).cell? ⟨w1.heap.size, 1, none⟩ = some (.int .i64 0) := var_cell _ _ _ _ _ rfl
      have s_2 : (w1.alloc (.cells #[.int .i64 0, .int .i64 0, .slice none 0 0] 91)).cell? ⟨w1.heap.size, 2, none⟩ = some (.slice none 0 0) := var_cell _ _ _ _ _ rfl
      have s_f0 : (w1.alloc (.cells #[.int .i64 0, .int .i64 0, .slice none 0 0] 91)).frozen? ⟨w1.heap.size, 0, none⟩ = false := var_frozen _ _ _ _
      have s_f1 : (w1.alloc (.cells #[.int .i64 0, .int .i64 0, .slice none 0 0] 91)).frozen? ⟨w1.heap.size, 1, none⟩ = false := var_frozen _ _ _ _
      have s_f2 : (w1.alloc (.cells #[.int .i64 0, .int .i64 0, .slice none 0 0] 91)).frozen? ⟨w1.heap.size, 2, none⟩ = false := var_frozen _ _ _ _
      generalize (w1.alloc (.cells #[.int .i64 0, .int .i64 0, .slice none 0 0] 91)) = w2 at *
      have hz2 : w1.heap.size ≤ w2.heap.size := he2.size
      have b2 : Below W.heap.size W w2 := b1.trans (he2.below b1.size (by omega))
      replace hr := (hr.below (he2.below (B := W.heap.size) (by omega) (by omega)) (Nat.le_refl _))
      replace res_f0 := (he2.frozen res_0 (by simp only; omega)).trans res_f0
      replace res_f1 := (he2.frozen res_1 (by simp only; omega)).trans res_f1
      replace res_f2 := (he2.frozen res_2 (by simp only; omega)).trans res_f2
      replace res_0 := he2.cell res_0 (by simp only; omega)
      replace res_1 := he2.cell res_1 (by simp only; omega)
      replace res_2 := he2.cell res_2 (by simp only; omega)
      replace res_l := Nat.lt_of_lt_of_le res_l hz2
      rw [hs1] at s_0 s_f0
      rw [hs1] at s_1 s_f1
      rw [hs1] at s_2 s_f2
      have s_l : W.heap.size + 1 < w2.heap.size := (by omega)
      refine (spec_GetNum _ n _ l 1 3 (by omega) w2 (hr.more (by omega))).mono ?_
      rintro e w3 ⟨rfl, hb⟩
      have he3 : Eff 0 0 w2 w3 := Eff.of hb
      have hz3 : w2.heap.size ≤ w3.heap.size := he3.size
      have b3 : Below W.heap.size W w3 := b2.trans (he3.below b2.size (by omega))
      replace hr := (hr.below (he3.below (B := W.heap.size) (by omega) (by omega)) (Nat.le_refl _))
      replace res_f0 := (he3.frozen res_0 (by simp only; omega)).trans res_f0
      replace res_f1 := (he3.frozen res_1 (by simp only; omega)).trans res_f1
      replace res_f2 := (he3.frozen res_2 (by simp only; omega)).trans res_f2
      replace s_f0 := (he3.frozen s_0 (by simp only; omega)).trans s_f0
      replace s_f1 := (he3.frozen s_1 (by simp only; omega)).trans s_f1
      replace s_f2 := (he3.frozen s_2 (by simp only; omega)).trans s_f2
      replace res_0 := he3.cell res_0 (by simp only; omega)
      replace res_1 := he3.cell res_1 (by simp only; omega)
      replace res_2 := he3.cell res_2 (by simp only; omega)
      replace s_0 := he3.cell s_0 (by simp only; omega)
      replace s_1 := he3.cell s_1 (by simp only; omega)
      replace s_2 := he3.cell s_2 (by simp only; omega)
      replace res_l := Nat.lt_of_lt_of_le res_l hz3
      replace s_l := Nat.lt_of_lt_of_le s_l hz3
      clear hb
      rw [HQ.out]
      go_wp2_with fail
      have he4 : Eff (W.heap.size + 1) (W.heap.size + 1 + 1) w3 (w3.setCell ⟨W.heap.size + 1, 0, none⟩ (.int .i64 q)) := eff_set _ _ _ _
      replace res_f0 := (he4.frozen res_0 (by simp only; omega)).trans res_f0
      replace res_f1 := (he4.frozen res_1 (by simp only; omega)).trans res_f1
      replace res_f2 := (he4.frozen res_2 (by simp only; omega)).trans res_f2
      replace s_f0 := set_frozen (p := ⟨W.heap.size + 1, 0, none⟩) s_f0 (.int .i64 q)
      replace s_f1 := set_frozen (p := ⟨W.heap.size + 1, 0, none⟩) s_f1 (.int .i64 q)
      replace s_f2 := set_frozen (p := ⟨W.heap.size + 1, 0, none⟩) s_f2 (.int .i64 q)
      replace res_0 := he4.cell res_0 (by simp only; omega)
      replace res_1 := he4.cell res_1 (by simp only; omega)
      replace res_2 := he4.cell res_2 (by simp only; omega)
      replace s_0 := set_same s_0 (.int .i64 q)
      replace s_1 := set_other (b' := W.heap.size + 1) (o' := 0) s_1 (.int .i64 q) (.inr (by omega))
      replace s_2 := set_other (b' := W.heap.size + 1) (o' := 0) s_2 (.int .i64 q) (.inr (by omega))
      have hz4 : w3.heap.size ≤ (w3.setCell ⟨W.heap.size + 1, 0, none⟩ (.int .i64 q)).heap.size := he4.size
      generalize (w3.setCell ⟨W.heap.size + 1, 0, none⟩ (.int .i64 q)) = w4 at *
      have b4 : Below W.heap.size W w4 := b3.trans (he4.below b3.size (by omega))
      replace hr := (hr.below (he4.below (B := W.heap.size) (by omega) (by omega)) (Nat.le_refl _))
      replace res_l := Nat.lt_of_lt_of_le res_l hz4
      replace s_l := Nat.lt_of_lt_of_le s_l hz4
      refine (spec_GetNum _ n _ l 4 3 (by omega) w4 (hr.more (by omega))).mono ?_
      rintro e w5 ⟨rfl, hb⟩
      have he5 : Eff 0 0 w4 w5 := Eff.of hb
      have hz5 : w4.heap.size ≤ w5.heap.size := he5.size
      have b5 : Below W.heap.size W w5 := b4.trans (he5.below b4.size (by omega))
      replace hr := (hr.below (he5.below (B := W.heap.size) (by omega) (by omega)) (Nat.le_refl _))
      replace res_f0 := (he5.frozen res_0 (by simp only; omega)).trans res_f0
      replace res_f1 := (he5.frozen res_1 (by simp only; omega)).trans res_f1
      replace res_f2 := (he5.frozen res_2 (by simp only; omega)).trans res_f2
      replace s_f0 := (he5.frozen s_0 (by simp only; omega)).trans s_f0
      replace s_f1 := (he5.frozen s_1 (by simp only; omega)).trans s_f1
      replace s_f2 := (he5.frozen s_2 (by simp only; omega)).trans s_f2
      replace res_0 := he5.cell res_0 (by simp only; omega)
      replace res_1 := he5.cell res_1 (by simp only; omega)
      replace res_2 := he5.cell res_2 (by simp only; omega)
      replace s_0 := he5.cell s_0 (by simp only; omega)
      replace s_1 := he5.cell s_1 (by simp only; omega)
      replace s_2 := he5.cell s_2 (by simp only; omega)
      replace res_l := Nat.lt_of_lt_of_le res_l hz5
      replace s_l := Nat.lt_of_lt_of_le s_l hz5
      clear hb
      rw [HP.out]
      go_wp2_with fail
      have he6 : Eff (W.heap.size + 1) (W.heap.size + 1 + 1) w5 (w5.setCell ⟨W.heap.size + 1, 1, none⟩ (.int .i64 p)) := eff_set _ _ _ _
      replace res_f0 := (he6.frozen res_0 (by simp only; omega)).trans res_f0
      replace res_f1 := (he6.frozen res_1 (by simp only; omega)).trans res_f1
      replace res_f2 := (he6.frozen res_2 (by simp only; omega)).trans res_f2
      replace s_f0 := set_frozen (p := ⟨W.heap.size + 1, 1, none⟩) s_f0 (.int .i64 p)
      replace s_f1 := set_frozen (p := ⟨W.heap.size + 1, 1, none⟩) s_f1 (.int .i64 p)
      replace s_f2 := set_frozen (p := ⟨W.heap.size + 1, 1, none⟩) s_f2 (.int .i64 p)
      replace res_0 := he6.cell res_0 (by simp only; omega)
      replace res_1 := he6.cell res_1 (by simp only; omega)
      replace res_2 := he6.cell res_2 (by simp only; omega)
      replace s_0 := set_other (b' := W.heap.size + 1) (o' := 1) s_0 (.int .i64 p) (.inr (by omega))
      replace s_1 := set_same s_1 (.int .i64 p)
      replace s_2 := set_other (b' := W.heap.size + 1) (o' := 1) s_2 (.int .i64 p) (.inr (by omega))
      have hz6 : w5.heap.size ≤ (w5.setCell ⟨W.heap.size + 1, 1, none⟩ (.int .i64 p)).heap.size := he6.size
      generalize (w5.setCell ⟨W.heap.size + 1, 1, none⟩ (.int .i64 p)) = w6 at *
      have b6 : Below W.heap.size W w6 := b5.trans (he6.below b5.size (by omega))
      replace hr := (hr.below (he6.below (B := W.heap.size) (by omega) (by omega)) (Nat.le_refl _))
      replace res_l := Nat.lt_of_lt_of_le res_l hz6
      replace s_l := Nat.lt_of_lt_of_le s_l hz6
      refine (spec_GetNum _ n _ l 7 1 (by omega) w6 (hr.more (by omega))).mono ?_
      rintro e w7 ⟨rfl, hb⟩
      have he7 : Eff 0 0 w6 w7 := Eff.of hb
      have hz7 : w6.heap.size ≤ w7.heap.size := he7.size
      have b7 : Below W.heap.size W w7 := b6.trans (he7.below b6.size (by omega))
      replace hr := (hr.below (he7.below (B := W.heap.size) (by omega) (by omega)) (Nat.le_refl _))
      replace res_f0 := (he7.frozen res_0 (by simp only; omega)).trans res_f0
      replace res_f1 := (he7.frozen res_1 (by simp only; omega)).trans res_f1
      replace res_f2 := (he7.frozen res_2 (by simp only; omega)).trans res_f2
      replace s_f0 := (he7.frozen s_0 (by simp only; omega)).trans s_f0
      replace s_f1 := (he7.frozen s_1 (by simp only; omega)).trans s_f1
      replace s_f2 := (he7.frozen s_2 (by simp only; omega)).trans s_f2
      replace res_0 := he7.cell res_0 (by simp only; omega)
      replace res_1 := he7.cell res_1 (by simp only; omega)
      replace res_2 := he7.cell res_2 (by simp only; omega)
      replace s_0 := he7.cell s_0 (by simp only; omega)
      replace s_1 := he7.cell s_1 (by simp only; omega)
      replace s_2 := he7.cell s_2 (by simp only; omega)
      replace res_l := Nat.lt_of_lt_of_le res_l hz7
      replace s_l := Nat.lt_of_lt_of_le s_l hz7
      clear hb
      rw [HM.out]
      go_wp2_with fail
      refine (spec_SectorBytes q p none 0 0 [] (by omega) w7 Rd.nil).mono ?_
      rintro e w8 hpost
      rw [hok] at hpost
      obtain ⟨Ar, cr, rfl, r, hb⟩ := hpost.yes (N := 128)
      clear hpost
      have he8 : Eff 0 0 w7 w8 := Eff.of hb
      have hz8 : w7.heap.size ≤ w8.heap.size := he8.size
      have b8 : Below W.heap.size W w8 := b7.trans (he8.below b7.size (by omega))
      replace hr := (hr.below (he8.below (B := W.heap.size) (by omega) (by omega)) (Nat.le_refl _))
      replace res_f0 := (he8.frozen res_0 (by simp only; omega)).trans res_f0
      replace res_f1 := (he8.frozen res_1 (by simp only; omega)).trans res_f1
      replace res_f2 := (he8.frozen res_2 (by simp only; omega)).trans res_f2
      replace s_f0 := (he8.frozen s_0 (by simp only; omega)).trans s_f0
      replace s_f1 := (he8.frozen s_1 (by simp only; omega)).trans s_f1
      replace s_f2 := (he8.frozen s_2 (by simp only; omega)).trans s_f2
      replace res_0 := he8.cell res_0 (by simp only; omega)
      replace res_1 := he8.cell res_1 (by simp only; omega)
      replace res_2 := he8.cell res_2 (by simp only; omega)
      replace s_0 := he8.cell s_0 (by simp only; omega)
      replace s_1 := he8.cell s_1 (by simp only; omega)
      replace s_2 := he8.cell s_2 (by simp only; omega)
      replace res_l := Nat.lt_of_lt_of_le res_l hz8
      replace s_l := Nat.lt_of_lt_of_le s_l hz8
      clear hb
      have hc1 := (OwnB.rd r (B := w8.heap.size) (by omega)).str 27 5 cr Try.underlying27 Try.underlying5 9 Try.underlying9
      have hc2 := hr.str 27 5 c Try.underlying27 Try.underlying5 9 Try.underlying9
      have hne := (beq_toListBytes _ _).symm.trans (bstr_other heq)
      obtain ⟨s1, hs1x⟩ : ∃ s, bstr (secBytes q.toNat p.toNat 0 []) = s := ⟨_, rfl⟩
      obtain ⟨s2, hs2x⟩ : ∃ s, bstr l = s := ⟨_, rfl⟩
      rw [hs1x] at hc1 hne
      rw [hs2x] at hc2 hne
      clear hs1x hs2x
      go_wp2
      refine bodyPost_ret (v := .tuple #[.agg #[.int .i64 0, .int .i64 0, .slice none 0 0], .bool false]) (by simp [results, Try.results68, go_sem, *]) rfl ?_
      refine SecR.no HG.out ?_
      repeat' (first | exact Below.refl _ _ | (refine Below.alloc ?_ ?_ _) | (refine Below.drew ?_) | (refine Below.setCell ?_ ?_ _) | (refine Below.trans ?_ (Below.mono (by assumption) ?_)) | omega | (simp; omega) | (simp; done) | exact Below.size (by assumption) | (refine Nat.le_trans ?_ (Below.size (by assumption))))
end Go.Proofs.Ytblenfhacaecmaa
