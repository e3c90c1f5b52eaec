/- The walk of FnAcc. -/
import Derived.Test.YtnjdmmdbminmoaaDoorTaL
import Derived.Test.YtnjdmmdbminmoaaDoorDacc
namespace Go.Proofs.YtnjdmmdbminmoaaDoor
open Go.RowKit
theorem ans_yes {k c : Int} (h : accOk k c = true) : accAns (accT k c) k c true := .inl ⟨rfl, h, rfl⟩
theorem ans_no {k c : Int} (h : accOk k c = false) : accAns (accT k c) 0 0 false := .inr ⟨rfl, fun _ _ h' => accT_ne h'.1 (h'.2.trans (accT_no h)), rfl, rfl⟩
theorem empty_no {l : List UInt8} (h : l ≠ []) : (bstr l).toList.isEmpty = false := by
  rw [ByteArray.toList_eq, bstr_list]
  cases l with
  | nil => exact absurd rfl h
  | cons => rfl
theorem empty_yes : (bstr []).toList.isEmpty = true := by rw [ByteArray.toList_eq, bstr_list]; rfl
theorem accT_len (k c : Int) : (accT k c).length ≤ 1000 := by
  rcases h : accOk k c with _ | _
  · rw [accT_no h]; simp
  · rw [accT_eq h, List.length_append]
    have h1 := accOk_iff.1 h
    have h2 := accW_len k.toNat (by omega)
    have h3 : (accN c).length ≤ 17 := by
      unfold accN
      split
      · exact nTx_len c
      · simp
    unfold accW
    omega
set_option maxRecDepth 100000 in
set_option maxHeartbeats 1000000 in
theorem walk_FnAcc (A : Option Addr) (n c : Nat) (l : List UInt8) (W : World) (_hnc : n ≤ c) (_hm : c ≤ maxLen) (hr : Rd W W.heap.size 1 A n (Lib.byteCells l)) (hT : PTab W) (hE : PErr W) (hM : PMax W) :
    Calls Tryd.prog 3 #[.slice A n c] W fun e w' => e = .returned (.bool true) ∧ Below W.heap.size W w' := by
  by_cases hn1 : 1048576 < n
  · unfold maxLen at _hm
    go_enter Tryd.func3, Tryd.ntmps3
    go_wp2
    go_ret
    exact ⟨rfl, Below.refl _ _⟩
  · have hn : n ≤ 1048576 := by omega
    clear hn1
    go_enter Tryd.func3, Tryd.ntmps3
    go_wp2_with fail
    refine (DrawAccText_any W A n c l (hr.more (by omega)) hn).mono ?_
    rintro e w1 ⟨k, ch, rfl, -, hb⟩
    have he1 : Eff 0 0 W w1 := Eff.of hb
    have hz1 : W.heap.size ≤ w1.heap.size := he1.size
    have b1 : Below W.heap.size W w1 := he1.below (Nat.le_refl _) (by omega)
    replace hr := (hr.below (he1.below (B := W.heap.size) (by omega) (by omega)) (Nat.le_refl _))
    replace hT := hT.below he1.all
    replace hE := hE.below he1.all
    replace hM := hM.below he1.all
    clear hb
    go_wp2_with fail
    have he2 : Eff 0 0 w1 (w1.alloc (.cells #[.int .i64 k, .int .i64 ch] 24)) := Eff.alloc _ _
    have hs2 : (w1.alloc (.cells #[.int .i64 k, .int .i64 ch] 24)).heap.size = w1.heap.size + 1 := (by simp)
    have a_0 : (w1.alloc (.cells #[.int .i64 k, .int .i64 ch] 24)).cell? ⟨w1.heap.size, 0, none⟩ = some (.int .i64 k) := var_cell _ _ _ _ _ rfl
    have a_1 : (w1.alloc (.cells #[.int .i64 k, .int .i64 ch] 24)).cell? ⟨w1.heap.size, 1, none⟩ = some (.int .i64 ch) := var_cell _ _ _ _ _ rfl
    generalize (w1.alloc (.cells #[.int .i64 k, .int .i64 ch] 24)) = w2 at *
    have hz2 : w1.heap.size ≤ w2.heap.size := he2.size
    have b2 : Below W.heap.size W w2 := b1.trans (he2.below b1.size (by omega))
    replace hr := (hr.below (he2.below (B := W.heap.size) (by omega) (by omega)) (Nat.le_refl _))
    replace hT := hT.below he2.all
    replace hE := hE.below he2.all
    replace hM := hM.below he2.all
    have a_l : w1.heap.size < w2.heap.size := (by omega)
    rcases hok : accOk k ch with _ | _
    · skip
      obtain ⟨T, hTe⟩ : ∃ T, accT k ch = T := ⟨_, rfl⟩
      have hans : accAns T 0 0 false := hTe ▸ ans_no hok
      have hTl : T.length ≤ 1000 := by rw [← hTe]; exact accT_len k ch
      have HANS := Lib.hid hans
      have HTe := Lib.hid hTe
      have HOK := Lib.hid hok
      obtain rfl : T = [] := hTe.symm.trans (accT_no hok)
      have hcm : (bstr []).toList.isEmpty = true := empty_yes
      clear hTe hans hok
      refine (impl_AccText k ch w2 hT hM).mono ?_
      rintro e w3 ⟨rfl, hb⟩
      rw [HTe.out]
      have he3 : Eff 0 0 w2 w3 := Eff.of hb
      have hz3 : w2.heap.size ≤ w3.heap.size := he3.size
      have b3 : Below W.heap.size W w3 := b2.trans (he3.below b2.size (by omega))
      replace hr := (hr.below (he3.below (B := W.heap.size) (by omega) (by omega)) (Nat.le_refl _))
      replace a_0 := he3.cell a_0 (by simp only; omega)
      replace a_1 := he3.cell a_1 (by simp only; omega)
      replace a_l := Nat.lt_of_lt_of_le a_l hz3
      replace hT := hT.below he3.all
      replace hE := hE.below he3.all
      replace hM := hM.below he3.all
      clear hb
      go_wp2_with fail
      refine (spec_AccOk k ch w3).mono ?_
      rintro e w4 ⟨rfl, hb⟩
      have he4 : Eff 0 0 w3 w4 := Eff.of hb
      have hz4 : w3.heap.size ≤ w4.heap.size := he4.size
      have b4 : Below W.heap.size W w4 := b3.trans (he4.below b3.size (by omega))
      replace hr := (hr.below (he4.below (B := W.heap.size) (by omega) (by omega)) (Nat.le_refl _))
      replace a_0 := he4.cell a_0 (by simp only; omega)
      replace a_1 := he4.cell a_1 (by simp only; omega)
      replace a_l := Nat.lt_of_lt_of_le a_l hz4
      replace hT := hT.below he4.all
      replace hE := hE.below he4.all
      replace hM := hM.below he4.all
      clear hb
      rw [HOK.out]
      go_wp2_with fail
      refine (impl_TextAcc (bstr []) (by rw [bstr_size]; first | omega | (simp; done) | (simp; omega)) w4 hT hE hM).mono ?_
      rintro e w5 hp
      obtain ⟨k', c', b', H2, rfl, hb⟩ := hp.get
      clear hp
      rw [bstr_list] at H2
      obtain ⟨hk', hc', hb'⟩ := accAns_one HANS.out H2.out
      rw [hk', hc', hb']
      clear hk' hc' hb' H2
      have he5 : Eff 0 0 w4 w5 := Eff.of hb
      have hz5 : w4.heap.size ≤ w5.heap.size := he5.size
      have b5 : Below W.heap.size W w5 := b4.trans (he5.below b4.size (by omega))
      replace hr := (hr.below (he5.below (B := W.heap.size) (by omega) (by omega)) (Nat.le_refl _))
      replace a_0 := he5.cell a_0 (by simp only; omega)
      replace a_1 := he5.cell a_1 (by simp only; omega)
      replace a_l := Nat.lt_of_lt_of_le a_l hz5
      replace hT := hT.below he5.all
      replace hE := hE.below he5.all
      replace hM := hM.below he5.all
      clear hb
      go_wp2_with fail
      go_ret
      exact ⟨rfl, b5.trans ((Below.refl _ _).alloc (by omega) _)⟩
    · skip
      obtain ⟨T, hTe⟩ : ∃ T, accT k ch = T := ⟨_, rfl⟩
      have hans : accAns T k ch true := hTe ▸ ans_yes hok
      have hTl : T.length ≤ 1000 := by rw [← hTe]; exact accT_len k ch
      have HANS := Lib.hid hans
      have HTe := Lib.hid hTe
      have HOK := Lib.hid hok
      have hcm : (bstr T).toList.isEmpty = false := empty_no (by rw [← hTe]; exact accT_ne hok)
      clear hTe hans hok
      refine (impl_AccText k ch w2 hT hM).mono ?_
      rintro e w3 ⟨rfl, hb⟩
      rw [HTe.out]
      have he3 : Eff 0 0 w2 w3 := Eff.of hb
      have hz3 : w2.heap.size ≤ w3.heap.size := he3.size
      have b3 : Below W.heap.size W w3 := b2.trans (he3.below b2.size (by omega))
      replace hr := (hr.below (he3.below (B := W.heap.size) (by omega) (by omega)) (Nat.le_refl _))
      replace a_0 := he3.cell a_0 (by simp only; omega)
      replace a_1 := he3.cell a_1 (by simp only; omega)
      replace a_l := Nat.lt_of_lt_of_le a_l hz3
      replace hT := hT.below he3.all
      replace hE := hE.below he3.all
      replace hM := hM.below he3.all
      clear hb
      go_wp2_with fail
      refine (spec_AccOk k ch w3).mono ?_
      rintro e w4 ⟨rfl, hb⟩
      have he4 : Eff 0 0 w3 w4 := Eff.of hb
      have hz4 : w3.heap.size ≤ w4.heap.size := he4.size
      have b4 : Below W.heap.size W w4 := b3.trans (he4.below b3.size (by omega))
      replace hr := (hr.below (he4.below (B := W.heap.size) (by omega) (by omega)) (Nat.le_refl _))
      replace a_0 := he4.cell a_0 (by simp only; omega)
      replace a_1 := he4.cell a_1 (by simp only; omega)
      replace a_l := Nat.lt_of_lt_of_le a_l hz4
      replace hT := hT.below he4.all
      replace hE := hE.below he4.all
      replace hM := hM.below he4.all
      clear hb
      rw [HOK.out]
      go_wp2_with fail
      refine (impl_TextAcc (bstr T) (by rw [bstr_size]; first | omega | (simp; done) | (simp; omega)) w4 hT hE hM).mono ?_
      rintro e w5 hp
      obtain ⟨k', c', b', H2, rfl, hb⟩ := hp.get
      clear hp
      rw [bstr_list] at H2
      obtain ⟨hk', hc', hb'⟩ := accAns_one HANS.out H2.out
      rw [hk', hc', hb']
      clear hk' hc' hb' H2
      have he5 : Eff 0 0 w4 w5 := Eff.of hb
      have hz5 : w4.heap.size ≤ w5.heap.size := he5.size
      have b5 : Below W.heap.size W w5 := b4.trans (he5.below b4.size (by omega))
      replace hr := (hr.below (he5.below (B := W.heap.size) (by omega) (by omega)) (Nat.le_refl _))
      replace a_0 := he5.cell a_0 (by simp only; omega)
      replace a_1 := he5.cell a_1 (by simp only; omega)
      replace a_l := Nat.lt_of_lt_of_le a_l hz5
      replace hT := hT.below he5.all
      replace hE := hE.below he5.all
      replace hM := hM.below he5.all
      clear hb
      go_wp2_with fail
      go_ret
      exact ⟨rfl, b5.trans ((Below.refl _ _).alloc (by omega) _)⟩
end Go.Proofs.YtnjdmmdbminmoaaDoor
