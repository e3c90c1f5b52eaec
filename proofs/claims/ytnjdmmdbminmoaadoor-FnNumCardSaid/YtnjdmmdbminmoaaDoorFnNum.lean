/- The walk of FnNum. -/
import Derived.Test.YtnjdmmdbminmoaaDoorDnum
import Derived.Test.YtnjdmmdbminmoaaDoorNum
import Derived.Test.YtnjdmmdbminmoaaDoorTn
namespace Go.Proofs.YtnjdmmdbminmoaaDoor
open Go.RowKit
theorem fold_digs (n : Nat) : ∀ (s a : Nat), (digs n s).foldl (fun a c => a * 256 + c.toNat) a = a * 256 ^ s + n % 256 ^ s
  | 0, a => by simp [digs, Nat.mod_one]
  | s + 1, a => by
    obtain ⟨P, hP⟩ : ∃ P, 256 ^ s = P := ⟨_, rfl⟩
    have e : n % 256 ^ (s + 1) = n % P + P * (n / P % 256) := by rw [← hP, Nat.pow_succ, Nat.mod_mul]
    have e2 : (256 : Nat) ^ (s + 1) = P * 256 := by rw [← hP, Nat.pow_succ]
    rw [digs, List.foldl_cons, fold_digs n s, UInt8.toNat_ofNat', e, e2, hP]
    show (a * 256 + n / P % 256) * P + n % P = a * (P * 256) + (n % P + P * (n / P % 256))
    rw [Nat.add_mul, Nat.mul_assoc, Nat.mul_comm 256 P, Nat.mul_comm P (n / P % 256)]
    omega
theorem beNat_digs {n s : Nat} (h : n < 256 ^ s) : beNat (digs n s) = n := by
  unfold beNat
  rw [fold_digs, Nat.zero_mul, Nat.zero_add, Nat.mod_eq_of_lt h]
theorem putOk_facts {n s : Int} (h : putOk n s = true) : 1 ≤ s ∧ s ≤ 7 ∧ 0 ≤ n ∧ n.toNat < 256 ^ s.toNat := by
  simp only [putOk, inB, Bool.and_eq_true, decide_eq_true_eq] at h
  refine ⟨h.1.1.1, h.1.1.2, h.1.2, ?_⟩
  have h2 := h.2
  have h3 : n < ((256 ^ s.toNat : Nat) : Int) := by rw [Int.natCast_pow]; exact h2
  omega
theorem back_num {l : List UInt8} {m : Nat} {n s : Int} (hl : l.length = m) (h : putOk n s = true) : getNum (l ++ digs n.toNat s.toNat) (m : Int) s = (n, true) := by
  obtain ⟨h1, h2, h3, h4⟩ := putOk_facts h
  obtain ⟨S, rfl⟩ : ∃ S : Nat, s = (S : Int) := ⟨s.toNat, by omega⟩
  obtain ⟨N, rfl⟩ : ∃ N : Nat, n = (N : Int) := ⟨n.toNat, by omega⟩
  simp only [Int.toNat_natCast] at h4 ⊢
  rw [getNum_ok (by omega) (by omega) (by rw [List.length_append, digs_len]; omega), ← hl, List.drop_left, List.take_of_length_le (by rw [digs_len]; exact Nat.le_refl _), beNat_digs h4]
theorem empty_noN {l : List UInt8} (h : l ≠ []) : (bstr l).toList.isEmpty = false := by
  rw [ByteArray.toList_eq, bstr_list]
  cases l with
  | nil => exact absurd rfl h
  | cons => rfl
theorem empty_yesN : (bstr []).toList.isEmpty = true := by rw [ByteArray.toList_eq, bstr_list]; rfl
set_option maxRecDepth 100000 in
set_option maxHeartbeats 4000000 in
theorem walk_FnNum (A : Option Addr) (n c : Nat) (l : List UInt8) (W : World) (_hnc : n ≤ c) (_hm : c ≤ maxLen) (hr : Rd W W.heap.size 1 A n (Lib.byteCells l)) (hT : PTab W) (hE : PErr W) :
    Calls Tryd.prog 9 #[.slice A n c] W fun e w' => e = .returned (.bool true) ∧ Below W.heap.size W w' := by
  by_cases hn1 : 1048576 < n
  · unfold maxLen at _hm
    go_enter Tryd.func9, Tryd.ntmps9
    go_wp2
    go_ret
    exact ⟨rfl, Below.refl _ _⟩
  · have hn : n ≤ 1048576 := by omega
    clear hn1
    go_enter Tryd.func9, Tryd.ntmps9
    go_wp2_with fail
    refine (DrawPutNum_any W A n c l (hr.more (by omega)) hn).mono ?_
    rintro e w1 ⟨Ab, m, cb, lb, z, s, rfl, hm, ⟨hz0, hz1⟩, hs0, hs1, b, hb⟩
    have he1 : Eff 0 0 W w1 := Eff.of hb
    have hz1 : W.heap.size ≤ w1.heap.size := he1.size
    have b1 : Below W.heap.size W w1 := he1.below (Nat.le_refl _) (by omega)
    replace hr := (hr.below (he1.below (B := W.heap.size) (by omega) (by omega)) (Nat.le_refl _))
    replace hT := hT.below he1.all
    replace hE := hE.below he1.all
    clear hb
    have hlb := b.len
    have HLB := Lib.hid hlb
    clear hlb
    rcases hok : putOk z s with _ | _
    · skip
      have HOK := Lib.hid hok
      clear hok
      go_wp2_with fail
      refine (impl_PutNum Ab m cb lb z s (by omega) w1 (b.rd (by omega))).mono ?_
      rintro e w2 hpost
      obtain ⟨Au, cu, rfl, u, hb⟩ := hpost.get (N := 0) (L := []) (by rw [HOK.out]; rfl) (by rw [HOK.out]; rfl)
      clear hpost
      rw [HOK.out]
      have he2 : Eff 0 0 w1 w2 := Eff.of hb
      have hz2 : w1.heap.size ≤ w2.heap.size := he2.size
      have b2 : Below W.heap.size W w2 := b1.trans (he2.below b1.size (by omega))
      replace hr := (hr.below (he2.below (B := W.heap.size) (by omega) (by omega)) (Nat.le_refl _))
      replace b := b.keep he2 (by omega)
      replace hT := hT.below he2.all
      replace hE := hE.below he2.all
      clear hb
      go_wp2_with fail
      refine (spec_PutNum Ab m cb lb z s (by omega) w2 (b.rd (by omega))).mono ?_
      rintro e w3 hpost
      obtain ⟨Av, cv, rfl, v, hb⟩ := hpost.get (N := 0) (L := []) (by rw [HOK.out]; rfl) (by rw [HOK.out]; rfl)
      clear hpost
      rw [HOK.out]
      have he3 : Eff 0 0 w2 w3 := Eff.of hb
      have hz3 : w2.heap.size ≤ w3.heap.size := he3.size
      have b3 : Below W.heap.size W w3 := b2.trans (he3.below b2.size (by omega))
      replace hr := (hr.below (he3.below (B := W.heap.size) (by omega) (by omega)) (Nat.le_refl _))
      replace b := b.keep he3 (by omega)
      replace u := u.keep he3 (by omega)
      replace hT := hT.below he3.all
      replace hE := hE.below he3.all
      clear hb
      replace u : OwnB w3 _ _ Au 0 cu [] := u
      go_wp2_with fail
      refine (impl_GetNum Au 0 cu [] (m : Int) s u.row_le (by omega) w3 (u.rd (by omega))).mono ?_
      rintro e w4 ⟨rfl, hb⟩
      obtain ⟨G, hG⟩ : ∃ G, getNum [] (m : Int) s = G := ⟨_, rfl⟩
      rw [hG]
      clear hG
      have he4 : Eff 0 0 w3 w4 := Eff.of hb
      have hz4 : w3.heap.size ≤ w4.heap.size := he4.size
      have b4 : Below W.heap.size W w4 := b3.trans (he4.below b3.size (by omega))
      replace hr := (hr.below (he4.below (B := W.heap.size) (by omega) (by omega)) (Nat.le_refl _))
      replace b := b.keep he4 (by omega)
      replace u := u.keep he4 (by omega)
      replace v := v.keep he4 (by omega)
      replace hT := hT.below he4.all
      replace hE := hE.below he4.all
      clear hb
      by_cases h1 : z < -1125899906842624
      · skip
        have hd1 : decide (-1125899906842624 ≤ z) = false := by simp; omega
        have hd2 : decide (z ≤ 1125899906842624) = true := by simp; omega
        have hin : inM z = false := by rcases hh : inM z with _ | _; rfl; have := inM_iff.1 hh; omega
        obtain ⟨T, hTe⟩ : ∃ T, T = ([] : List UInt8) := ⟨_, rfl⟩
        have hem : (bstr T).toList.isEmpty = true := hTe ▸ empty_yesN
        have htn : tNum T = none := hTe ▸ tNum_empty
        have hTl : T.length ≤ 17 := by rw [hTe]; simp
        replace hTe : nTx z = T := (nTx_out hin).trans hTe.symm
        have HTe := Lib.hid hTe
        have HTN := Lib.hid htn
        clear hTe htn hin
        go_wp2_with fail
        refine (impl_NumText z w4 hT).mono ?_
        rintro e w5 ⟨rfl, hb⟩
        rw [HTe.out]
        have he5 : Eff 0 0 w4 w5 := Eff.of hb
        have hz5 : w4.heap.size ≤ w5.heap.size := he5.size
        have b5 : Below W.heap.size W w5 := b4.trans (he5.below b4.size (by omega))
        replace hr := (hr.below (he5.below (B := W.heap.size) (by omega) (by omega)) (Nat.le_refl _))
        replace b := b.keep he5 (by omega)
        replace u := u.keep he5 (by omega)
        replace v := v.keep he5 (by omega)
        replace hT := hT.below he5.all
        replace hE := hE.below he5.all
        clear hb
        go_wp2_with fail
        refine (impl_TextNum (bstr T) (by rw [bstr_size]; omega) w5 hT hE).mono ?_
        rintro e w6 hrd
        obtain ⟨rfl, hb⟩ := hrd
        rw [bstr_list, HTN.out]
        have he6 : Eff 0 0 w5 w6 := Eff.of hb
        have hz6 : w5.heap.size ≤ w6.heap.size := he6.size
        have b6 : Below W.heap.size W w6 := b5.trans (he6.below b5.size (by omega))
        replace hr := (hr.below (he6.below (B := W.heap.size) (by omega) (by omega)) (Nat.le_refl _))
        replace b := b.keep he6 (by omega)
        replace u := u.keep he6 (by omega)
        replace v := v.keep he6 (by omega)
        replace hT := hT.below he6.all
        replace hE := hE.below he6.all
        clear hb
        go_wp2_with fail
        go_ret
        exact ⟨rfl, b6⟩
      · skip
        by_cases h2 : 1125899906842624 < z
        · skip
          have hd1 : decide (-1125899906842624 ≤ z) = true := by simp; omega
          have hd2 : decide (z ≤ 1125899906842624) = false := by simp; omega
          have hin : inM z = false := by rcases hh : inM z with _ | _; rfl; have := inM_iff.1 hh; omega
          obtain ⟨T, hTe⟩ : ∃ T, T = ([] : List UInt8) := ⟨_, rfl⟩
          have hem : (bstr T).toList.isEmpty = true := hTe ▸ empty_yesN
          have htn : tNum T = none := hTe ▸ tNum_empty
          have hTl : T.length ≤ 17 := by rw [hTe]; simp
          replace hTe : nTx z = T := (nTx_out hin).trans hTe.symm
          have HTe := Lib.hid hTe
          have HTN := Lib.hid htn
          clear hTe htn hin
          go_wp2_with fail
          refine (impl_NumText z w4 hT).mono ?_
          rintro e w5 ⟨rfl, hb⟩
          rw [HTe.out]
          have he5 : Eff 0 0 w4 w5 := Eff.of hb
          have hz5 : w4.heap.size ≤ w5.heap.size := he5.size
          have b5 : Below W.heap.size W w5 := b4.trans (he5.below b4.size (by omega))
          replace hr := (hr.below (he5.below (B := W.heap.size) (by omega) (by omega)) (Nat.le_refl _))
          replace b := b.keep he5 (by omega)
          replace u := u.keep he5 (by omega)
          replace v := v.keep he5 (by omega)
          replace hT := hT.below he5.all
          replace hE := hE.below he5.all
          clear hb
          go_wp2_with fail
          refine (impl_TextNum (bstr T) (by rw [bstr_size]; omega) w5 hT hE).mono ?_
          rintro e w6 hrd
          obtain ⟨rfl, hb⟩ := hrd
          rw [bstr_list, HTN.out]
          have he6 : Eff 0 0 w5 w6 := Eff.of hb
          have hz6 : w5.heap.size ≤ w6.heap.size := he6.size
          have b6 : Below W.heap.size W w6 := b5.trans (he6.below b5.size (by omega))
          replace hr := (hr.below (he6.below (B := W.heap.size) (by omega) (by omega)) (Nat.le_refl _))
          replace b := b.keep he6 (by omega)
          replace u := u.keep he6 (by omega)
          replace v := v.keep he6 (by omega)
          replace hT := hT.below he6.all
          replace hE := hE.below he6.all
          clear hb
          go_wp2_with fail
          go_ret
          exact ⟨rfl, b6⟩
        · skip
          have h1' : -1125899906842624 ≤ z := by omega
          have h2' : z ≤ 1125899906842624 := by omega
          clear h1 h2
          have hd1 : decide (-1125899906842624 ≤ z) = true := by simp; omega
          have hd2 : decide (z ≤ 1125899906842624) = true := by simp; omega
          have hin : inM z = true := inM_iff.2 (by omega)
          obtain ⟨T, hTe⟩ : ∃ T, nTx z = T := ⟨_, rfl⟩
          have hem : (bstr T).toList.isEmpty = false := empty_noN (by rw [← hTe]; exact nTx_ne.2 hin)
          have htn := tNum_of (l := T) (by rw [← hTe]; exact nTx_ne.2 hin) hTe
          have hTl : T.length ≤ 17 := by rw [← hTe]; exact nTx_len z
          have HTe := Lib.hid hTe
          have HTN := Lib.hid htn
          clear hTe htn hin
          go_wp2_with fail
          refine (impl_NumText z w4 hT).mono ?_
          rintro e w5 ⟨rfl, hb⟩
          rw [HTe.out]
          have he5 : Eff 0 0 w4 w5 := Eff.of hb
          have hz5 : w4.heap.size ≤ w5.heap.size := he5.size
          have b5 : Below W.heap.size W w5 := b4.trans (he5.below b4.size (by omega))
          replace hr := (hr.below (he5.below (B := W.heap.size) (by omega) (by omega)) (Nat.le_refl _))
          replace b := b.keep he5 (by omega)
          replace u := u.keep he5 (by omega)
          replace v := v.keep he5 (by omega)
          replace hT := hT.below he5.all
          replace hE := hE.below he5.all
          clear hb
          go_wp2_with fail
          refine (impl_TextNum (bstr T) (by rw [bstr_size]; omega) w5 hT hE).mono ?_
          rintro e w6 hrd
          obtain ⟨rfl, hb⟩ := hrd
          rw [bstr_list, HTN.out]
          have he6 : Eff 0 0 w5 w6 := Eff.of hb
          have hz6 : w5.heap.size ≤ w6.heap.size := he6.size
          have b6 : Below W.heap.size W w6 := b5.trans (he6.below b5.size (by omega))
          replace hr := (hr.below (he6.below (B := W.heap.size) (by omega) (by omega)) (Nat.le_refl _))
          replace b := b.keep he6 (by omega)
          replace u := u.keep he6 (by omega)
          replace v := v.keep he6 (by omega)
          replace hT := hT.below he6.all
          replace hE := hE.below he6.all
          clear hb
          go_wp2_with fail
          go_ret
          exact ⟨rfl, b6⟩
    · skip
      have HOK := Lib.hid hok
      clear hok
      obtain ⟨hs2, hs3, hz2, hz3⟩ := putOk_facts HOK.out
      obtain ⟨S, rfl⟩ : ∃ S : Nat, s = (S : Int) := ⟨s.toNat, by omega⟩
      clear hz3
      go_wp2_with fail
      refine (impl_PutNum Ab m cb lb z (S : Int) (by omega) w1 (b.rd (by omega))).mono ?_
      rintro e w2 hpost
      obtain ⟨Au, cu, rfl, u, hb⟩ := hpost.get (N := (m + S)) (L := (lb ++ digs z.toNat S)) (by rw [HOK.out]; rfl) (by rw [HOK.out]; rfl)
      clear hpost
      rw [HOK.out]
      have he2 : Eff 0 0 w1 w2 := Eff.of hb
      have hz2 : w1.heap.size ≤ w2.heap.size := he2.size
      have b2 : Below W.heap.size W w2 := b1.trans (he2.below b1.size (by omega))
      replace hr := (hr.below (he2.below (B := W.heap.size) (by omega) (by omega)) (Nat.le_refl _))
      replace b := b.keep he2 (by omega)
      replace hT := hT.below he2.all
      replace hE := hE.below he2.all
      clear hb
      go_wp2_with fail
      refine (spec_PutNum Ab m cb lb z (S : Int) (by omega) w2 (b.rd (by omega))).mono ?_
      rintro e w3 hpost
      obtain ⟨Av, cv, rfl, v, hb⟩ := hpost.get (N := (m + S)) (L := (lb ++ digs z.toNat S)) (by rw [HOK.out]; rfl) (by rw [HOK.out]; rfl)
      clear hpost
      rw [HOK.out]
      have he3 : Eff 0 0 w2 w3 := Eff.of hb
      have hz3 : w2.heap.size ≤ w3.heap.size := he3.size
      have b3 : Below W.heap.size W w3 := b2.trans (he3.below b2.size (by omega))
      replace hr := (hr.below (he3.below (B := W.heap.size) (by omega) (by omega)) (Nat.le_refl _))
      replace b := b.keep he3 (by omega)
      replace u := u.keep he3 (by omega)
      replace hT := hT.below he3.all
      replace hE := hE.below he3.all
      clear hb
      replace u : OwnB w3 _ _ Au (m + S) cu (lb ++ digs z.toNat S) := u
      go_wp2_with fail
      refine (impl_GetNum Au (m + S) cu (lb ++ digs z.toNat S) (m : Int) (S : Int) u.row_le (by omega) w3 (u.rd (by omega))).mono ?_
      rintro e w4 ⟨rfl, hb⟩
      rw [show getNum (lb ++ digs z.toNat S) (m : Int) (S : Int) = (z, true) from back_num HLB.out HOK.out]
      have he4 : Eff 0 0 w3 w4 := Eff.of hb
      have hz4 : w3.heap.size ≤ w4.heap.size := he4.size
      have b4 : Below W.heap.size W w4 := b3.trans (he4.below b3.size (by omega))
      replace hr := (hr.below (he4.below (B := W.heap.size) (by omega) (by omega)) (Nat.le_refl _))
      replace b := b.keep he4 (by omega)
      replace u := u.keep he4 (by omega)
      replace v := v.keep he4 (by omega)
      replace hT := hT.below he4.all
      replace hE := hE.below he4.all
      clear hb
      have hzz : (z != z) = false := by simp
      by_cases h1 : z < -1125899906842624
      · skip
        have hd1 : decide (-1125899906842624 ≤ z) = false := by simp; omega
        have hd2 : decide (z ≤ 1125899906842624) = true := by simp; omega
        have hin : inM z = false := by rcases hh : inM z with _ | _; rfl; have := inM_iff.1 hh; omega
        obtain ⟨T, hTe⟩ : ∃ T, T = ([] : List UInt8) := ⟨_, rfl⟩
        have hem : (bstr T).toList.isEmpty = true := hTe ▸ empty_yesN
        have htn : tNum T = none := hTe ▸ tNum_empty
        have hTl : T.length ≤ 17 := by rw [hTe]; simp
        replace hTe : nTx z = T := (nTx_out hin).trans hTe.symm
        have HTe := Lib.hid hTe
        have HTN := Lib.hid htn
        clear hTe htn hin
        go_wp2_with fail
        refine (impl_NumText z w4 hT).mono ?_
        rintro e w5 ⟨rfl, hb⟩
        rw [HTe.out]
        have he5 : Eff 0 0 w4 w5 := Eff.of hb
        have hz5 : w4.heap.size ≤ w5.heap.size := he5.size
        have b5 : Below W.heap.size W w5 := b4.trans (he5.below b4.size (by omega))
        replace hr := (hr.below (he5.below (B := W.heap.size) (by omega) (by omega)) (Nat.le_refl _))
        replace b := b.keep he5 (by omega)
        replace u := u.keep he5 (by omega)
        replace v := v.keep he5 (by omega)
        replace hT := hT.below he5.all
        replace hE := hE.below he5.all
        clear hb
        go_wp2_with fail
        refine (impl_TextNum (bstr T) (by rw [bstr_size]; omega) w5 hT hE).mono ?_
        rintro e w6 hrd
        obtain ⟨rfl, hb⟩ := hrd
        rw [bstr_list, HTN.out]
        have he6 : Eff 0 0 w5 w6 := Eff.of hb
        have hz6 : w5.heap.size ≤ w6.heap.size := he6.size
        have b6 : Below W.heap.size W w6 := b5.trans (he6.below b5.size (by omega))
        replace hr := (hr.below (he6.below (B := W.heap.size) (by omega) (by omega)) (Nat.le_refl _))
        replace b := b.keep he6 (by omega)
        replace u := u.keep he6 (by omega)
        replace v := v.keep he6 (by omega)
        replace hT := hT.below he6.all
        replace hE := hE.below he6.all
        clear hb
        go_wp2_with fail
        go_ret
        exact ⟨rfl, b6⟩
      · skip
        by_cases h2 : 1125899906842624 < z
        · skip
          have hd1 : decide (-1125899906842624 ≤ z) = true := by simp; omega
          have hd2 : decide (z ≤ 1125899906842624) = false := by simp; omega
          have hin : inM z = false := by rcases hh : inM z with _ | _; rfl; have := inM_iff.1 hh; omega
          obtain ⟨T, hTe⟩ : ∃ T, T = ([] : List UInt8) := ⟨_, rfl⟩
          have hem : (bstr T).toList.isEmpty = true := hTe ▸ empty_yesN
          have htn : tNum T = none := hTe ▸ tNum_empty
          have hTl : T.length ≤ 17 := by rw [hTe]; simp
          replace hTe : nTx z = T := (nTx_out hin).trans hTe.symm
          have HTe := Lib.hid hTe
          have HTN := Lib.hid htn
          clear hTe htn hin
          go_wp2_with fail
          refine (impl_NumText z w4 hT).mono ?_
          rintro e w5 ⟨rfl, hb⟩
          rw [HTe.out]
          have he5 : Eff 0 0 w4 w5 := Eff.of hb
          have hz5 : w4.heap.size ≤ w5.heap.size := he5.size
          have b5 : Below W.heap.size W w5 := b4.trans (he5.below b4.size (by omega))
          replace hr := (hr.below (he5.below (B := W.heap.size) (by omega) (by omega)) (Nat.le_refl _))
          replace b := b.keep he5 (by omega)
          replace u := u.keep he5 (by omega)
          replace v := v.keep he5 (by omega)
          replace hT := hT.below he5.all
          replace hE := hE.below he5.all
          clear hb
          go_wp2_with fail
          refine (impl_TextNum (bstr T) (by rw [bstr_size]; omega) w5 hT hE).mono ?_
          rintro e w6 hrd
          obtain ⟨rfl, hb⟩ := hrd
          rw [bstr_list, HTN.out]
          have he6 : Eff 0 0 w5 w6 := Eff.of hb
          have hz6 : w5.heap.size ≤ w6.heap.size := he6.size
          have b6 : Below W.heap.size W w6 := b5.trans (he6.below b5.size (by omega))
          replace hr := (hr.below (he6.below (B := W.heap.size) (by omega) (by omega)) (Nat.le_refl _))
          replace b := b.keep he6 (by omega)
          replace u := u.keep he6 (by omega)
          replace v := v.keep he6 (by omega)
          replace hT := hT.below he6.all
          replace hE := hE.below he6.all
          clear hb
          go_wp2_with fail
          go_ret
          exact ⟨rfl, b6⟩
        · skip
          have h1' : -1125899906842624 ≤ z := by omega
          have h2' : z ≤ 1125899906842624 := by omega
          clear h1 h2
          have hd1 : decide (-1125899906842624 ≤ z) = true := by simp; omega
          have hd2 : decide (z ≤ 1125899906842624) = true := by simp; omega
          have hin : inM z = true := inM_iff.2 (by omega)
          obtain ⟨T, hTe⟩ : ∃ T, nTx z = T := ⟨_, rfl⟩
          have hem : (bstr T).toList.isEmpty = false := empty_noN (by rw [← hTe]; exact nTx_ne.2 hin)
          have htn := tNum_of (l := T) (by rw [← hTe]; exact nTx_ne.2 hin) hTe
          have hTl : T.length ≤ 17 := by rw [← hTe]; exact nTx_len z
          have HTe := Lib.hid hTe
          have HTN := Lib.hid htn
          clear hTe htn hin
          go_wp2_with fail
          refine (impl_NumText z w4 hT).mono ?_
          rintro e w5 ⟨rfl, hb⟩
          rw [HTe.out]
          have he5 : Eff 0 0 w4 w5 := Eff.of hb
          have hz5 : w4.heap.size ≤ w5.heap.size := he5.size
          have b5 : Below W.heap.size W w5 := b4.trans (he5.below b4.size (by omega))
          replace hr := (hr.below (he5.below (B := W.heap.size) (by omega) (by omega)) (Nat.le_refl _))
          replace b := b.keep he5 (by omega)
          replace u := u.keep he5 (by omega)
          replace v := v.keep he5 (by omega)
          replace hT := hT.below he5.all
          replace hE := hE.below he5.all
          clear hb
          go_wp2_with fail
          refine (impl_TextNum (bstr T) (by rw [bstr_size]; omega) w5 hT hE).mono ?_
          rintro e w6 hrd
          obtain ⟨rfl, hb⟩ := hrd
          rw [bstr_list, HTN.out]
          have he6 : Eff 0 0 w5 w6 := Eff.of hb
          have hz6 : w5.heap.size ≤ w6.heap.size := he6.size
          have b6 : Below W.heap.size W w6 := b5.trans (he6.below b5.size (by omega))
          replace hr := (hr.below (he6.below (B := W.heap.size) (by omega) (by omega)) (Nat.le_refl _))
          replace b := b.keep he6 (by omega)
          replace u := u.keep he6 (by omega)
          replace v := v.keep he6 (by omega)
          replace hT := hT.below he6.all
          replace hE := hE.below he6.all
          clear hb
          go_wp2_with fail
          go_ret
          exact ⟨rfl, b6⟩
end Go.Proofs.YtnjdmmdbminmoaaDoor
