/- The walk of FnEvent. -/
import Derived.Test.YtnjdmmdbminmoaaDoorTeL
import Derived.Test.YtnjdmmdbminmoaaDoorDev
import Derived.Test.YtnjdmmdbminmoaaDoorBev2
namespace Go.Proofs.YtnjdmmdbminmoaaDoor
open Go.RowKit
theorem evAns_yes {k key ch to amt fee : Int} {y : Bool} (h : evOk k key ch to amt fee y = true) : evAns (evT k key ch to amt fee y) k key ch to amt fee y true := .inl ⟨rfl, h, rfl⟩
theorem evAns_no : evAns [] 0 0 0 0 0 0 false false := .inr ⟨rfl, fun _ _ _ _ _ _ _ h => evT_ne h.1 h.2, rfl, rfl, rfl, rfl, rfl, rfl, rfl⟩
theorem evT_len (k key ch to amt fee : Int) (y : Bool) : (evT k key ch to amt fee y).length ≤ 1000 := by
  rcases h : evOk k key ch to amt fee y with _ | _
  · rw [evT_no h]; simp
  · rw [evT_yes h]
    have hk := ok_kind h
    obtain ⟨j, rfl⟩ : ∃ j : Nat, k = (j : Int) := ⟨k.toNat, by omega⟩
    have h1 := evW_len (k := j) (by omega)
    have h2 : ∀ x ∈ evL (j : Int) key ch to amt fee y, x.length ≤ 17 := by
      intro x hx
      rcases List.mem_cons.1 hx with rfl | hx
      · unfold evW; rw [Int.toNat_natCast]; omega
      · rcases List.mem_append.1 hx with hx | hx
        · exact ev_short hx
        · unfold ynL at hx
          split at hx
          · simp only [List.mem_singleton] at hx
            subst hx
            cases y <;> decide
          · simp at hx
    have h3 : (evL (j : Int) key ch to amt fee y).length ≤ 7 := by
      rw [evL, List.length_cons, List.length_append, List.length_map, nums_offs key ch to amt fee hk.1 hk.2, List.length_map]
      have := offs_len (k := (j : Int))
      have h4 : (ynL (j : Int) y).length ≤ 1 := by unfold ynL; split <;> simp
      omega
    obtain ⟨x, r, hxr⟩ : ∃ x r, evL (j : Int) key ch to amt fee y = x :: r := ⟨_, _, rfl⟩
    rw [hxr] at h2 h3 ⊢
    rw [Lib.join_length]
    have h5 := lens_le (ws := x :: r) (m := 17) h2
    have h6 : (x :: r).length * 17 ≤ 7 * 17 := Nat.mul_le_mul_right _ h3
    simp only [List.length_cons, List.length_nil] at h3 h6 ⊢
    simp only [List.length_cons] at h5
    omega
/-! ### the bytes of an event are read as they were written -/
theorem fold_digsE (n : Nat) : ∀ (s a : Nat), (digs n s).foldl (fun a c => a * 256 + c.toNat) a = a * 256 ^ s + n % 256 ^ s
  | 0, a => by simp [digs, Nat.mod_one]
  | s + 1, a => by
    obtain ⟨P, hP⟩ : ∃ P, 256 ^ s = P := ⟨_, rfl⟩
    have e : n % 256 ^ (s + 1) = n % P + P * (n / P % 256) := by rw [← hP, Nat.pow_succ, Nat.mod_mul]
    have e2 : (256 : Nat) ^ (s + 1) = P * 256 := by rw [← hP, Nat.pow_succ]
    rw [digs, List.foldl_cons, fold_digsE n s, UInt8.toNat_ofNat', e, e2, hP]
    show (a * 256 + n / P % 256) * P + n % P = a * (P * 256) + (n % P + P * (n / P % 256))
    rw [Nat.add_mul, Nat.mul_assoc, Nat.mul_comm 256 P, Nat.mul_comm P (n / P % 256)]
    omega
theorem beNat_digsE {n s : Nat} (h : n < 256 ^ s) : beNat (digs n s) = n := by
  unfold beNat
  rw [fold_digsE, Nat.zero_mul, Nat.zero_add, Nat.mod_eq_of_lt h]
theorem putOk_facts {n s : Int} (h : putOk n s = true) : 1 ≤ s ∧ s ≤ 7 ∧ 0 ≤ n ∧ n.toNat < 256 ^ s.toNat := by
  simp only [putOk, inB, Bool.and_eq_true, decide_eq_true_eq] at h
  refine ⟨h.1.1.1, h.1.1.2, h.1.2, ?_⟩
  have h2 := h.2
  have h3 : n < ((256 ^ s.toNat : Nat) : Int) := by rw [Int.natCast_pow]; exact h2
  omega
theorem get_digs (a b : List UInt8) {n s p : Nat} {P S : Int} (hp : a.length = p) (h1 : 1 ≤ s) (h2 : s ≤ 7) (h : n < 256 ^ s) (hP : P = (p : Int) := by rfl) (hS : S = (s : Int) := by rfl) : getNum (a ++ (digs n s ++ b)) P S = ((n : Int), true) := by
  subst hP hS
  rw [getNum_ok h1 h2 (by rw [List.length_append, List.length_append, digs_len]; omega)]
  have e : ((a ++ (digs n s ++ b)).drop p).take s = digs n s := by
    subst hp
    rw [List.drop_left]
    have := digs_len n s
    rw [List.take_append_of_le_length (by omega), List.take_of_length_le (by omega)]
  rw [e, beNat_digsE h]
theorem body_back {Kd K C T M F : Nat} {y : Bool} (h : evOk Kd K C T M F y = true) (h0 : Kd ≤ 11) (h1 : K ≤ 1000000) (h2 : C ≤ 99) (h3 : T ≤ 99) (h4 : M ≤ 1125899906842624) (h5 : F ≤ 1125899906842624) :
    getNum (evBytes Kd K C T M F y) 1 1 = ((Kd : Int), true) ∧ getNum (evBytes Kd K C T M F y) 2 3 = ((K : Int), true) ∧ getNum (evBytes Kd K C T M F y) 5 1 = ((C : Int), true) ∧ getNum (evBytes Kd K C T M F y) 6 1 = ((T : Int), true) ∧ getNum (evBytes Kd K C T M F y) 7 7 = ((M : Int), true) ∧ getNum (evBytes Kd K C T M F y) 14 7 = ((F : Int), true) ∧ ((getNum (evBytes Kd K C T M F y) 21 1).1 == 1) = y := by
  refine ⟨?_, ?_, ?_, ?_, ?_, ?_, ?_⟩
  · have := get_digs [69] (digs K 3 ++ digs C 1 ++ digs T 1 ++ digs M 7 ++ digs F 7 ++ [if y then 1 else 0]) (n := Kd) (s := 1) (p := 1) (P := 1) (S := 1) (by simp) (by omega) (by omega) (by omega)
    simpa only [evBytes, List.append_assoc] using this
  · have := get_digs ([69] ++ digs Kd 1) (digs C 1 ++ digs T 1 ++ digs M 7 ++ digs F 7 ++ [if y then 1 else 0]) (n := K) (s := 3) (p := 2) (P := 2) (S := 3) (by simp [digs_len]) (by omega) (by omega) (by omega)
    simpa only [evBytes, List.append_assoc] using this
  · have := get_digs ([69] ++ digs Kd 1 ++ digs K 3) (digs T 1 ++ digs M 7 ++ digs F 7 ++ [if y then 1 else 0]) (n := C) (s := 1) (p := 5) (P := 5) (S := 1) (by simp [digs_len]) (by omega) (by omega) (by omega)
    simpa only [evBytes, List.append_assoc] using this
  · have := get_digs ([69] ++ digs Kd 1 ++ digs K 3 ++ digs C 1) (digs M 7 ++ digs F 7 ++ [if y then 1 else 0]) (n := T) (s := 1) (p := 6) (P := 6) (S := 1) (by simp [digs_len]) (by omega) (by omega) (by omega)
    simpa only [evBytes, List.append_assoc] using this
  · have := get_digs ([69] ++ digs Kd 1 ++ digs K 3 ++ digs C 1 ++ digs T 1) (digs F 7 ++ [if y then 1 else 0]) (n := M) (s := 7) (p := 7) (P := 7) (S := 7) (by simp [digs_len]) (by omega) (by omega) (by omega)
    simpa only [evBytes, List.append_assoc] using this
  · have := get_digs ([69] ++ digs Kd 1 ++ digs K 3 ++ digs C 1 ++ digs T 1 ++ digs M 7) [if y then 1 else 0] (n := F) (s := 7) (p := 14) (P := 14) (S := 7) (by simp [digs_len]) (by omega) (by omega) (by omega)
    simpa only [evBytes, List.append_assoc] using this
  · have e : (([if y then 1 else 0] : List UInt8)) = digs (if y then 1 else 0) 1 ++ [] := by cases y <;> rfl
    have := get_digs ([69] ++ digs Kd 1 ++ digs K 3 ++ digs C 1 ++ digs T 1 ++ digs M 7 ++ digs F 7) [] (n := if y then 1 else 0) (s := 1) (p := 21) (P := 21) (S := 1) (by simp [digs_len]) (by omega) (by omega) (by cases y <;> decide)
    have e2 : evBytes Kd K C T M F y = [69] ++ digs Kd 1 ++ digs K 3 ++ digs C 1 ++ digs T 1 ++ digs M 7 ++ digs F 7 ++ (digs (if y then 1 else 0) 1 ++ []) := by unfold evBytes; rw [e]
    rw [e2]
    have h6 := congrArg Prod.fst this
    simp only at h6
    rw [h6]
    cases y <;> rfl
theorem good_body {Kd K C T M F : Nat} {y : Bool} (h : evOk Kd K C T M F y = true) (h0 : Kd ≤ 11) (h1 : K ≤ 1000000) (h2 : C ≤ 99) (h3 : T ≤ 99) (h4 : M ≤ 1125899906842624) (h5 : F ≤ 1125899906842624) : evGood (evBytes Kd K C T M F y) = true := by
  obtain ⟨a0, a1, a2, a3, a4, a5, a6⟩ := body_back h h0 h1 h2 h3 h4 h5
  unfold evGood
  rw [a0, a1, a2, a3, a4, a5, a6]
  simp only [Int.toNat_natCast, h, Bool.true_and]
  exact eqL_self _
theorem EvR.none {w w' : World} {e : Ending} (h : EvR [] w e w') (hg : evGood [] = false) : e = .returned (.tuple #[.agg #[.int .i64 0, .int .i64 0, .int .i64 0, .int .i64 0, .int .i64 0, .int .i64 0, .bool false], .bool false]) ∧ Below w.heap.size w w' := by
  obtain ⟨he, hb⟩ := h
  rw [hg] at he
  exact ⟨he, hb⟩
theorem EvR.some {l : List UInt8} {w w' : World} {e : Ending} {a0 a1 a2 a3 a4 a5 : Int} {y : Bool} (h : EvR l w e w') (H : evGood l = true ∧ getNum l 1 1 = (a0, true) ∧ getNum l 2 3 = (a1, true) ∧ getNum l 5 1 = (a2, true) ∧ getNum l 6 1 = (a3, true) ∧ getNum l 7 7 = (a4, true) ∧ getNum l 14 7 = (a5, true) ∧ ((getNum l 21 1).1 == 1) = y) :
    e = .returned (.tuple #[.agg #[.int .i64 a0, .int .i64 a1, .int .i64 a2, .int .i64 a3, .int .i64 a4, .int .i64 a5, .bool y], .bool true]) ∧ Below w.heap.size w w' := by
  obtain ⟨hg, g0, g1, g2, g3, g4, g5, g6⟩ := H
  obtain ⟨he, hb⟩ := h
  rw [hg, g0, g1, g2, g3, g4, g5, g6] at he
  exact ⟨he, hb⟩
theorem good_nil : evGood [] = false := evGood_len (by simp)
set_option maxRecDepth 100000 in
set_option maxHeartbeats 4000000 in
theorem walk_FnEvent (A : Option Addr) (n c : Nat) (l : List UInt8) (W : World) (_hnc : n ≤ c) (_hm : c ≤ maxLen) (hr : Rd W W.heap.size 1 A n (Lib.byteCells l)) (hT : PTab W) (hE : PErr W) (hM : PMax W) :
    Calls Tryd.prog 5 #[.slice A n c] W fun e w' => e = .returned (.bool true) ∧ Below W.heap.size W w' := by
  by_cases hn1 : 1048576 < n
  · unfold maxLen at _hm
    go_enter Tryd.func5, Tryd.ntmps5
    go_wp2
    go_ret
    exact ⟨rfl, Below.refl _ _⟩
  · have hn : n ≤ 1048576 := by omega
    clear hn1
    go_enter Tryd.func5, Tryd.ntmps5
    go_wp2_with fail
    refine (DrawEventBody_any W A n c l (hr.more (by omega)) hn).mono ?_
    rintro e w1 ⟨k, key, ch, to, amt, fee, y, rfl, hb⟩
    have he1 : Eff 0 0 W w1 := Eff.of hb
    have hz1 : W.heap.size ≤ w1.heap.size := he1.size
    have b1 : Below W.heap.size W w1 := he1.below (Nat.le_refl _) (by omega)
    replace hr := (hr.below (he1.below (B := W.heap.size) (by omega) (by omega)) (Nat.le_refl _))
    replace hT := hT.below he1.all
    replace hE := hE.below he1.all
    replace hM := hM.below he1.all
    clear hb
    go_wp2_with fail
    have he2 : Eff 0 0 w1 (w1.alloc (.cells #[.int .i64 k, .int .i64 key, .int .i64 ch, .int .i64 to, .int .i64 amt, .int .i64 fee, .bool y] 32)) := Eff.alloc _ _
    have hs2 : (w1.alloc (.cells #[.int .i64 k, .int .i64 key, .int .i64 ch, .int .i64 to, .int .i64 amt, .int .i64 fee, .bool y] 32)).heap.size = w1.heap.size + 1 := (by simp)
    have e_0 : (w1.alloc (.cells #[.int .i64 k, .int .i64 key, .int .i64 ch, .int .i64 to, .int .i64 amt, .int .i64 fee, .bool y] 32)).cell? ⟨w1.heap.size, 0, none⟩ = some (.int .i64 k) := var_cell _ _ _ _ _ rfl
    have e_1 : (w1.alloc (.cells #[.int .i64 k, .int .i64 key, .int .i64 ch, .int .i64 to, .int .i64 amt, .int .i64 fee, .bool y] 32)).cell? ⟨w1.heap.size, 1, none⟩ = some (.int .i64 key) := var_cell _ _ _ _ _ rfl
    have e_2 : (w1.alloc (.cells #[.int .i64 k, .int .i64 key, .int .i64 ch, .int .i64 to, .int .i64 amt, .int .i64 fee, .bool y] 32)).cell? ⟨w1.heap.size, 2, none⟩ = some (.int .i64 ch) := var_cell _ _ _ _ _ rfl
    have e_3 : (w1.alloc (.cells #[.int .i64 k, .int .i64 key, .int .i64 ch, .int .i64 to, .int .i64 amt, .int .i64 fee, .bool y] 32)).cell? ⟨w1.heap.size, 3, none⟩ = some (.int .i64 to) := var_cell _ _ _ _ _ rfl
    have e_4 : (w1.alloc (.cells #[.int .i64 k, .int .i64 key, .int .i64 ch, .int .i64 to, .int .i64 amt, .int .i64 fee, .bool y] 32)).cell? ⟨w1.heap.size, 4, none⟩ = some (.int .i64 amt) := var_cell _ _ _ _ _ rfl
    have e_5 : (w1.alloc (.cells #[.int .i64 k, .int .i64 key, .int .i64 ch, .int .i64 to, .int .i64 amt, .int .i64 fee, .bool y] 32)).cell? ⟨w1.heap.size, 5, none⟩ = some (.int .i64 fee) := var_cell _ _ _ _ _ rfl
    have e_6 : (w1.alloc (.cells #[.int .i64 k, .int .i64 key, .int .i64 ch, .int .i64 to, .int .i64 amt, .int .i64 fee, .bool y] 32)).cell? ⟨w1.heap.size, 6, none⟩ = some (.bool y) := var_cell _ _ _ _ _ rfl
    generalize (w1.alloc (.cells #[.int .i64 k, .int .i64 key, .int .i64 ch, .int .i64 to, .int .i64 amt, .int .i64 fee, .bool y] 32)) = w2 at *
    have hz2 : w1.heap.size ≤ w2.heap.size := he2.size
    have b2 : Below W.heap.size W w2 := b1.trans (he2.below b1.size (by omega))
    replace hr := (hr.below (he2.below (B := W.heap.size) (by omega) (by omega)) (Nat.le_refl _))
    replace hT := hT.below he2.all
    replace hE := hE.below he2.all
    replace hM := hM.below he2.all
    have e_l : w1.heap.size < w2.heap.size := (by omega)
    rcases hok : evOk k key ch to amt fee y with _ | _
    · skip
      have HOK := Lib.hid hok
      have hTe := Lib.hid (evT_no hok)
      have hem : (bstr []).toList.isEmpty = true := empty_yesE
      clear hok
      refine (impl_EventBody k key ch to amt fee y w2).mono ?_
      rintro e w3 hp
      rw [HOK.out] at hp
      obtain ⟨rfl, hb⟩ := PutB.not hp
      clear hp
      have he3 : Eff 0 0 w2 w3 := Eff.of hb
      have hz3 : w2.heap.size ≤ w3.heap.size := he3.size
      have b3 : Below W.heap.size W w3 := b2.trans (he3.below b2.size (by omega))
      replace hr := (hr.below (he3.below (B := W.heap.size) (by omega) (by omega)) (Nat.le_refl _))
      replace e_0 := he3.cell e_0 (by simp only; omega)
      replace e_1 := he3.cell e_1 (by simp only; omega)
      replace e_2 := he3.cell e_2 (by simp only; omega)
      replace e_3 := he3.cell e_3 (by simp only; omega)
      replace e_4 := he3.cell e_4 (by simp only; omega)
      replace e_5 := he3.cell e_5 (by simp only; omega)
      replace e_6 := he3.cell e_6 (by simp only; omega)
      replace e_l := Nat.lt_of_lt_of_le e_l hz3
      replace hT := hT.below he3.all
      replace hE := hE.below he3.all
      replace hM := hM.below he3.all
      clear hb
      go_wp2_with fail
      refine (impl_EventText k key ch to amt fee y w3 hT hM).mono ?_
      rintro e w4 ⟨rfl, hb⟩
      rw [hTe.out]
      have he4 : Eff 0 0 w3 w4 := Eff.of hb
      have hz4 : w3.heap.size ≤ w4.heap.size := he4.size
      have b4 : Below W.heap.size W w4 := b3.trans (he4.below b3.size (by omega))
      replace hr := (hr.below (he4.below (B := W.heap.size) (by omega) (by omega)) (Nat.le_refl _))
      replace e_0 := he4.cell e_0 (by simp only; omega)
      replace e_1 := he4.cell e_1 (by simp only; omega)
      replace e_2 := he4.cell e_2 (by simp only; omega)
      replace e_3 := he4.cell e_3 (by simp only; omega)
      replace e_4 := he4.cell e_4 (by simp only; omega)
      replace e_5 := he4.cell e_5 (by simp only; omega)
      replace e_6 := he4.cell e_6 (by simp only; omega)
      replace e_l := Nat.lt_of_lt_of_le e_l hz4
      replace hT := hT.below he4.all
      replace hE := hE.below he4.all
      replace hM := hM.below he4.all
      clear hb
      go_wp2_with fail
      refine (spec_EventOk k key ch to amt fee y w4).mono ?_
      rintro e w5 ⟨rfl, hb⟩
      have he5 : Eff 0 0 w4 w5 := Eff.of hb
      have hz5 : w4.heap.size ≤ w5.heap.size := he5.size
      have b5 : Below W.heap.size W w5 := b4.trans (he5.below b4.size (by omega))
      replace hr := (hr.below (he5.below (B := W.heap.size) (by omega) (by omega)) (Nat.le_refl _))
      replace e_0 := he5.cell e_0 (by simp only; omega)
      replace e_1 := he5.cell e_1 (by simp only; omega)
      replace e_2 := he5.cell e_2 (by simp only; omega)
      replace e_3 := he5.cell e_3 (by simp only; omega)
      replace e_4 := he5.cell e_4 (by simp only; omega)
      replace e_5 := he5.cell e_5 (by simp only; omega)
      replace e_6 := he5.cell e_6 (by simp only; omega)
      replace e_l := Nat.lt_of_lt_of_le e_l hz5
      replace hT := hT.below he5.all
      replace hE := hE.below he5.all
      replace hM := hM.below he5.all
      clear hb
      rw [HOK.out]
      go_wp2_with fail
      refine (impl_BodyEvent none 0 0 [] (Nat.le_refl _) (Nat.zero_le _) w5 Rd.nil).mono ?_
      rintro e w6 hp
      obtain ⟨rfl, hb⟩ := EvR.none hp good_nil
      clear hp
      have he6 : Eff 0 0 w5 w6 := Eff.of hb
      have hz6 : w5.heap.size ≤ w6.heap.size := he6.size
      have b6 : Below W.heap.size W w6 := b5.trans (he6.below b5.size (by omega))
      replace hr := (hr.below (he6.below (B := W.heap.size) (by omega) (by omega)) (Nat.le_refl _))
      replace e_0 := he6.cell e_0 (by simp only; omega)
      replace e_1 := he6.cell e_1 (by simp only; omega)
      replace e_2 := he6.cell e_2 (by simp only; omega)
      replace e_3 := he6.cell e_3 (by simp only; omega)
      replace e_4 := he6.cell e_4 (by simp only; omega)
      replace e_5 := he6.cell e_5 (by simp only; omega)
      replace e_6 := he6.cell e_6 (by simp only; omega)
      replace e_l := Nat.lt_of_lt_of_le e_l hz6
      replace hT := hT.below he6.all
      replace hE := hE.below he6.all
      replace hM := hM.below he6.all
      clear hb
      have e_0P := (Eff.alloc w6 (.cells #[.int .i64 0, .int .i64 0, .int .i64 0, .int .i64 0, .int .i64 0, .int .i64 0, .bool false] 32)).cell e_0 (by simp only; omega)
      have e_1P := (Eff.alloc w6 (.cells #[.int .i64 0, .int .i64 0, .int .i64 0, .int .i64 0, .int .i64 0, .int .i64 0, .bool false] 32)).cell e_1 (by simp only; omega)
      have e_2P := (Eff.alloc w6 (.cells #[.int .i64 0, .int .i64 0, .int .i64 0, .int .i64 0, .int .i64 0, .int .i64 0, .bool false] 32)).cell e_2 (by simp only; omega)
      have e_3P := (Eff.alloc w6 (.cells #[.int .i64 0, .int .i64 0, .int .i64 0, .int .i64 0, .int .i64 0, .int .i64 0, .bool false] 32)).cell e_3 (by simp only; omega)
      have e_4P := (Eff.alloc w6 (.cells #[.int .i64 0, .int .i64 0, .int .i64 0, .int .i64 0, .int .i64 0, .int .i64 0, .bool false] 32)).cell e_4 (by simp only; omega)
      have e_5P := (Eff.alloc w6 (.cells #[.int .i64 0, .int .i64 0, .int .i64 0, .int .i64 0, .int .i64 0, .int .i64 0, .bool false] 32)).cell e_5 (by simp only; omega)
      have e_6P := (Eff.alloc w6 (.cells #[.int .i64 0, .int .i64 0, .int .i64 0, .int .i64 0, .int .i64 0, .int .i64 0, .bool false] 32)).cell e_6 (by simp only; omega)
      go_wp2_with fail
      have he7 : Eff 0 0 w6 (w6.alloc (.cells #[.int .i64 0, .int .i64 0, .int .i64 0, .int .i64 0, .int .i64 0, .int .i64 0, .bool false] 32)) := Eff.alloc _ _
      have hs7 : (w6.alloc (.cells #[.int .i64 0, .int .i64 0, .int .i64 0, .int .i64 0, .int .i64 0, .int .i64 0, .bool false] 32)).heap.size = w6.heap.size + 1 := (by simp)
      have x_0 : (w6.alloc (.cells #[.int .i64 0, .int .i64 0, .int .i64 0, .int .i64 0, .int .i64 0, .int .i64 0, .bool false] 32)).cell? ⟨w6.heap.size, 0, none⟩ = some (.int .i64 0) := var_cell _ _ _ _ _ rfl
      have x_1 : (w6.alloc (.cells #[.int .i64 0, .int .i64 0, .int .i64 0, .int .i64 0, .int .i64 0, .int .i64 0, .bool false] 32)).cell? ⟨w6.heap.size, 1, none⟩ = some (.int .i64 0) := var_cell _ _ _ _ _ rfl
      have x_2 : (w6.alloc (.cells #[.int .i64 0, .int .i64 0, .int .i64 0, .int .i64 0, .int .i64 0, .int .i64 0, .bool false] 32)).cell? ⟨w6.heap.size, 2, none⟩ = some (.int .i64 0) := var_cell _ _ _ _ _ rfl
      have x_3 : (w6.alloc (.cells #[.int .i64 0, .int .i64 0, .int .i64 0, .int .i64 0, .int .i64 0, .int .i64 0, .bool false] 32)).cell? ⟨w6.heap.size, 3, none⟩ = some (.int .i64 0) := var_cell _ _ _ _ _ rfl
      have x_4 : (w6.alloc (.cells #[.int .i64 0, .int .i64 0, .int .i64 0, .int .i64 0, .int .i64 0, .int .i64 0, .bool false] 32)).cell? ⟨w6.heap.size, 4, none⟩ = some (.int .i64 0) := var_cell _ _ _ _ _ rfl
      have x_5 : (w6.alloc (.cells #[.int .i64 0, .int .i64 0, .int .i64 0, .int .i64 0, .int .i64 0, .int .i64 0, .bool false] 32)).cell? ⟨w6.heap.size, 5, none⟩ = some (.int .i64 0) := var_cell _ _ _ _ _ rfl
      have x_6 : (w6.alloc (.cells #[.int .i64 0, .int .i64 0, .int .i64 0, .int .i64 0, .int .i64 0, .int .i64 0, .bool false] 32)).cell? ⟨w6.heap.size, 6, none⟩ = some (.bool false) := var_cell _ _ _ _ _ rfl
      generalize (w6.alloc (.cells #[.int .i64 0, .int .i64 0, .int .i64 0, .int .i64 0, .int .i64 0, .int .i64 0, .bool false] 32)) = w7 at *
      have hz7 : w6.heap.size ≤ w7.heap.size := he7.size
      have b7 : Below W.heap.size W w7 := b6.trans (he7.below b6.size (by omega))
      replace hr := (hr.below (he7.below (B := W.heap.size) (by omega) (by omega)) (Nat.le_refl _))
      replace e_0 := he7.cell e_0 (by simp only; omega)
      replace e_1 := he7.cell e_1 (by simp only; omega)
      replace e_2 := he7.cell e_2 (by simp only; omega)
      replace e_3 := he7.cell e_3 (by simp only; omega)
      replace e_4 := he7.cell e_4 (by simp only; omega)
      replace e_5 := he7.cell e_5 (by simp only; omega)
      replace e_6 := he7.cell e_6 (by simp only; omega)
      replace e_l := Nat.lt_of_lt_of_le e_l hz7
      replace hT := hT.below he7.all
      replace hE := hE.below he7.all
      replace hM := hM.below he7.all
      have x_l : w6.heap.size < w7.heap.size := (by omega)
      clear e_0P e_1P e_2P e_3P e_4P e_5P e_6P
      refine (impl_TextEvent (bstr []) (by rw [bstr_size]; simp) w7 hT hE hM).mono ?_
      rintro e w8 hp
      obtain ⟨k', key', ch', to', amt', fee', y', b', H2, rfl, hb⟩ := hp.get
      clear hp
      rw [bstr_list] at H2
      obtain ⟨q1, q2, q3, q4, q5, q6, q7, q8⟩ := evAns_one evAns_no H2.out
      rw [q1, q2, q3, q4, q5, q6, q7, q8]
      clear q1 q2 q3 q4 q5 q6 q7 q8 H2
      have he8 : Eff 0 0 w7 w8 := Eff.of hb
      have hz8 : w7.heap.size ≤ w8.heap.size := he8.size
      have b8 : Below W.heap.size W w8 := b7.trans (he8.below b7.size (by omega))
      replace hr := (hr.below (he8.below (B := W.heap.size) (by omega) (by omega)) (Nat.le_refl _))
      replace e_0 := he8.cell e_0 (by simp only; omega)
      replace e_1 := he8.cell e_1 (by simp only; omega)
      replace e_2 := he8.cell e_2 (by simp only; omega)
      replace e_3 := he8.cell e_3 (by simp only; omega)
      replace e_4 := he8.cell e_4 (by simp only; omega)
      replace e_5 := he8.cell e_5 (by simp only; omega)
      replace e_6 := he8.cell e_6 (by simp only; omega)
      replace x_0 := he8.cell x_0 (by simp only; omega)
      replace x_1 := he8.cell x_1 (by simp only; omega)
      replace x_2 := he8.cell x_2 (by simp only; omega)
      replace x_3 := he8.cell x_3 (by simp only; omega)
      replace x_4 := he8.cell x_4 (by simp only; omega)
      replace x_5 := he8.cell x_5 (by simp only; omega)
      replace x_6 := he8.cell x_6 (by simp only; omega)
      replace e_l := Nat.lt_of_lt_of_le e_l hz8
      replace x_l := Nat.lt_of_lt_of_le x_l hz8
      replace hT := hT.below he8.all
      replace hE := hE.below he8.all
      replace hM := hM.below he8.all
      clear hb
      have e_0P := (Eff.alloc w8 (.cells #[.int .i64 0, .int .i64 0, .int .i64 0, .int .i64 0, .int .i64 0, .int .i64 0, .bool false] 32)).cell e_0 (by simp only; omega)
      have e_1P := (Eff.alloc w8 (.cells #[.int .i64 0, .int .i64 0, .int .i64 0, .int .i64 0, .int .i64 0, .int .i64 0, .bool false] 32)).cell e_1 (by simp only; omega)
      have e_2P := (Eff.alloc w8 (.cells #[.int .i64 0, .int .i64 0, .int .i64 0, .int .i64 0, .int .i64 0, .int .i64 0, .bool false] 32)).cell e_2 (by simp only; omega)
      have e_3P := (Eff.alloc w8 (.cells #[.int .i64 0, .int .i64 0, .int .i64 0, .int .i64 0, .int .i64 0, .int .i64 0, .bool false] 32)).cell e_3 (by simp only; omega)
      have e_4P := (Eff.alloc w8 (.cells #[.int .i64 0, .int .i64 0, .int .i64 0, .int .i64 0, .int .i64 0, .int .i64 0, .bool false] 32)).cell e_4 (by simp only; omega)
      have e_5P := (Eff.alloc w8 (.cells #[.int .i64 0, .int .i64 0, .int .i64 0, .int .i64 0, .int .i64 0, .int .i64 0, .bool false] 32)).cell e_5 (by simp only; omega)
      have e_6P := (Eff.alloc w8 (.cells #[.int .i64 0, .int .i64 0, .int .i64 0, .int .i64 0, .int .i64 0, .int .i64 0, .bool false] 32)).cell e_6 (by simp only; omega)
      have x_0P := (Eff.alloc w8 (.cells #[.int .i64 0, .int .i64 0, .int .i64 0, .int .i64 0, .int .i64 0, .int .i64 0, .bool false] 32)).cell x_0 (by simp only; omega)
      have x_1P := (Eff.alloc w8 (.cells #[.int .i64 0, .int .i64 0, .int .i64 0, .int .i64 0, .int .i64 0, .int .i64 0, .bool false] 32)).cell x_1 (by simp only; omega)
      have x_2P := (Eff.alloc w8 (.cells #[.int .i64 0, .int .i64 0, .int .i64 0, .int .i64 0, .int .i64 0, .int .i64 0, .bool false] 32)).cell x_2 (by simp only; omega)
      have x_3P := (Eff.alloc w8 (.cells #[.int .i64 0, .int .i64 0, .int .i64 0, .int .i64 0, .int .i64 0, .int .i64 0, .bool false] 32)).cell x_3 (by simp only; omega)
      have x_4P := (Eff.alloc w8 (.cells #[.int .i64 0, .int .i64 0, .int .i64 0, .int .i64 0, .int .i64 0, .int .i64 0, .bool false] 32)).cell x_4 (by simp only; omega)
      have x_5P := (Eff.alloc w8 (.cells #[.int .i64 0, .int .i64 0, .int .i64 0, .int .i64 0, .int .i64 0, .int .i64 0, .bool false] 32)).cell x_5 (by simp only; omega)
      have x_6P := (Eff.alloc w8 (.cells #[.int .i64 0, .int .i64 0, .int .i64 0, .int .i64 0, .int .i64 0, .int .i64 0, .bool false] 32)).cell x_6 (by simp only; omega)
      go_wp2_with fail
      go_ret
      exact ⟨rfl, b8.trans ((Below.refl _ _).alloc (by omega) _)⟩
    · skip
      obtain ⟨⟨a1, a2⟩, ⟨b1, b2⟩, ⟨c1, c2⟩, ⟨d1, d2⟩, ⟨m1, m2⟩, f1, f2⟩ := evOk_le hok
      obtain ⟨Kd, rfl⟩ : ∃ x : Nat, k = (x : Int) := ⟨k.toNat, by omega⟩
      obtain ⟨K, rfl⟩ : ∃ x : Nat, key = (x : Int) := ⟨key.toNat, by omega⟩
      obtain ⟨C, rfl⟩ : ∃ x : Nat, ch = (x : Int) := ⟨ch.toNat, by omega⟩
      obtain ⟨T, rfl⟩ : ∃ x : Nat, to = (x : Int) := ⟨to.toNat, by omega⟩
      obtain ⟨M, rfl⟩ : ∃ x : Nat, amt = (x : Int) := ⟨amt.toNat, by omega⟩
      obtain ⟨F, rfl⟩ : ∃ x : Nat, fee = (x : Int) := ⟨fee.toNat, by omega⟩
      obtain ⟨TX, hTX⟩ : ∃ t, evT (Kd : Int) (K : Int) (C : Int) (T : Int) (M : Int) (F : Int) y = t := ⟨_, rfl⟩
      have hans : evAns TX (Kd : Int) (K : Int) (C : Int) (T : Int) (M : Int) (F : Int) y true := hTX ▸ evAns_yes hok
      have hTl : TX.length ≤ 1000 := by rw [← hTX]; exact evT_len _ _ _ _ _ _ _
      have hem : (bstr TX).toList.isEmpty = false := empty_noE (by rw [← hTX]; exact evT_ne hok)
      obtain ⟨BX, hBX⟩ : ∃ t, evBytes Kd K C T M F y = t := ⟨_, rfl⟩
      have hgd : evGood BX = true := by rw [← hBX]; exact good_body hok (by omega) (by omega) (by omega) (by omega) (by omega) (by omega)
      obtain ⟨g0, g1, g2, g3, g4, g5, g6⟩ := body_back hok (by omega) (by omega) (by omega) (by omega) (by omega) (by omega)
      rw [hBX] at g0 g1 g2 g3 g4 g5 g6
      have HG := Lib.hid (And.intro hgd (And.intro g0 (And.intro g1 (And.intro g2 (And.intro g3 (And.intro g4 (And.intro g5 g6)))))))
      have HOK := Lib.hid hok
      have HTX := Lib.hid hTX
      have HBX := Lib.hid hBX
      have HANS := Lib.hid hans
      clear hok hTX hBX hans hgd g0 g1 g2 g3 g4 g5 g6 a1 a2 b1 b2 c1 c2 d1 d2 m1 m2 f1 f2
      refine (impl_EventBody (Kd : Int) (K : Int) (C : Int) (T : Int) (M : Int) (F : Int) y w2).mono ?_
      rintro e w3 hp
      rw [HOK.out] at hp
      obtain ⟨Ab, cb, rfl, ob, hb⟩ := PutB.yes hp
      clear hp
      simp only [Int.toNat_natCast] at ob
      rw [HBX.out] at ob
      have he3 : Eff 0 0 w2 w3 := Eff.of hb
      have hz3 : w2.heap.size ≤ w3.heap.size := he3.size
      have b3 : Below W.heap.size W w3 := b2.trans (he3.below b2.size (by omega))
      replace hr := (hr.below (he3.below (B := W.heap.size) (by omega) (by omega)) (Nat.le_refl _))
      replace e_0 := he3.cell e_0 (by simp only; omega)
      replace e_1 := he3.cell e_1 (by simp only; omega)
      replace e_2 := he3.cell e_2 (by simp only; omega)
      replace e_3 := he3.cell e_3 (by simp only; omega)
      replace e_4 := he3.cell e_4 (by simp only; omega)
      replace e_5 := he3.cell e_5 (by simp only; omega)
      replace e_6 := he3.cell e_6 (by simp only; omega)
      replace e_l := Nat.lt_of_lt_of_le e_l hz3
      replace hT := hT.below he3.all
      replace hE := hE.below he3.all
      replace hM := hM.below he3.all
      clear hb
      have hcap := Own.caps ob
      have hcb := hcap.1
      have hcm := hcap.2
      clear hcap
      go_wp2_with fail
      refine (impl_EventText (Kd : Int) (K : Int) (C : Int) (T : Int) (M : Int) (F : Int) y w3 hT hM).mono ?_
      rintro e w4 ⟨rfl, hb⟩
      rw [HTX.out]
      have he4 : Eff 0 0 w3 w4 := Eff.of hb
      have hz4 : w3.heap.size ≤ w4.heap.size := he4.size
      have b4 : Below W.heap.size W w4 := b3.trans (he4.below b3.size (by omega))
      replace hr := (hr.below (he4.below (B := W.heap.size) (by omega) (by omega)) (Nat.le_refl _))
      replace ob := ob.keep he4 (by omega)
      replace e_0 := he4.cell e_0 (by simp only; omega)
      replace e_1 := he4.cell e_1 (by simp only; omega)
      replace e_2 := he4.cell e_2 (by simp only; omega)
      replace e_3 := he4.cell e_3 (by simp only; omega)
      replace e_4 := he4.cell e_4 (by simp only; omega)
      replace e_5 := he4.cell e_5 (by simp only; omega)
      replace e_6 := he4.cell e_6 (by simp only; omega)
      replace e_l := Nat.lt_of_lt_of_le e_l hz4
      replace hT := hT.below he4.all
      replace hE := hE.below he4.all
      replace hM := hM.below he4.all
      clear hb
      go_wp2_with fail
      refine (spec_EventOk (Kd : Int) (K : Int) (C : Int) (T : Int) (M : Int) (F : Int) y w4).mono ?_
      rintro e w5 ⟨rfl, hb⟩
      have he5 : Eff 0 0 w4 w5 := Eff.of hb
      have hz5 : w4.heap.size ≤ w5.heap.size := he5.size
      have b5 : Below W.heap.size W w5 := b4.trans (he5.below b4.size (by omega))
      replace hr := (hr.below (he5.below (B := W.heap.size) (by omega) (by omega)) (Nat.le_refl _))
      replace ob := ob.keep he5 (by omega)
      replace e_0 := he5.cell e_0 (by simp only; omega)
      replace e_1 := he5.cell e_1 (by simp only; omega)
      replace e_2 := he5.cell e_2 (by simp only; omega)
      replace e_3 := he5.cell e_3 (by simp only; omega)
      replace e_4 := he5.cell e_4 (by simp only; omega)
      replace e_5 := he5.cell e_5 (by simp only; omega)
      replace e_6 := he5.cell e_6 (by simp only; omega)
      replace e_l := Nat.lt_of_lt_of_le e_l hz5
      replace hT := hT.below he5.all
      replace hE := hE.below he5.all
      replace hM := hM.below he5.all
      clear hb
      rw [HOK.out]
      go_wp2_with fail
      refine (impl_BodyEvent Ab 22 cb BX hcb hcm w5 (Own.rd ob (Own.le ob))).mono ?_
      rintro e w6 hp
      obtain ⟨rfl, hb⟩ := EvR.some hp HG.out
      clear hp
      have he6 : Eff 0 0 w5 w6 := Eff.of hb
      have hz6 : w5.heap.size ≤ w6.heap.size := he6.size
      have b6 : Below W.heap.size W w6 := b5.trans (he6.below b5.size (by omega))
      replace hr := (hr.below (he6.below (B := W.heap.size) (by omega) (by omega)) (Nat.le_refl _))
      replace ob := ob.keep he6 (by omega)
      replace e_0 := he6.cell e_0 (by simp only; omega)
      replace e_1 := he6.cell e_1 (by simp only; omega)
      replace e_2 := he6.cell e_2 (by simp only; omega)
      replace e_3 := he6.cell e_3 (by simp only; omega)
      replace e_4 := he6.cell e_4 (by simp only; omega)
      replace e_5 := he6.cell e_5 (by simp only; omega)
      replace e_6 := he6.cell e_6 (by simp only; omega)
      replace e_l := Nat.lt_of_lt_of_le e_l hz6
      replace hT := hT.below he6.all
      replace hE := hE.below he6.all
      replace hM := hM.below he6.all
      clear hb
      have e_0P := (Eff.alloc w6 (.cells #[.int .i64 (Kd : Int), .int .i64 (K : Int), .int .i64 (C : Int), .int .i64 (T : Int), .int .i64 (M : Int), .int .i64 (F : Int), .bool y] 32)).cell e_0 (by simp only; omega)
      have e_1P := (Eff.alloc w6 (.cells #[.int .i64 (Kd : Int), .int .i64 (K : Int), .int .i64 (C : Int), .int .i64 (T : Int), .int .i64 (M : Int), .int .i64 (F : Int), .bool y] 32)).cell e_1 (by simp only; omega)
      have e_2P := (Eff.alloc w6 (.cells #[.int .i64 (Kd : Int), .int .i64 (K : Int), .int .i64 (C : Int), .int .i64 (T : Int), .int .i64 (M : Int), .int .i64 (F : Int), .bool y] 32)).cell e_2 (by simp only; omega)
      have e_3P := (Eff.alloc w6 (.cells #[.int .i64 (Kd : Int), .int .i64 (K : Int), .int .i64 (C : Int), .int .i64 (T : Int), .int .i64 (M : Int), .int .i64 (F : Int), .bool y] 32)).cell e_3 (by simp only; omega)
      have e_4P := (Eff.alloc w6 (.cells #[.int .i64 (Kd : Int), .int .i64 (K : Int), .int .i64 (C : Int), .int .i64 (T : Int), .int .i64 (M : Int), .int .i64 (F : Int), .bool y] 32)).cell e_4 (by simp only; omega)
      have e_5P := (Eff.alloc w6 (.cells #[.int .i64 (Kd : Int), .int .i64 (K : Int), .int .i64 (C : Int), .int .i64 (T : Int), .int .i64 (M : Int), .int .i64 (F : Int), .bool y] 32)).cell e_5 (by simp only; omega)
      have e_6P := (Eff.alloc w6 (.cells #[.int .i64 (Kd : Int), .int .i64 (K : Int), .int .i64 (C : Int), .int .i64 (T : Int), .int .i64 (M : Int), .int .i64 (F : Int), .bool y] 32)).cell e_6 (by simp only; omega)
      go_wp2_with fail
      have he7 : Eff 0 0 w6 (w6.alloc (.cells #[.int .i64 (Kd : Int), .int .i64 (K : Int), .int .i64 (C : Int), .int .i64 (T : Int), .int .i64 (M : Int), .int .i64 (F : Int), .bool y] 32)) := Eff.alloc _ _
      have hs7 : (w6.alloc (.cells #[.int .i64 (Kd : Int), .int .i64 (K : Int), .int .i64 (C : Int), .int .i64 (T : Int), .int .i64 (M : Int), .int .i64 (F : Int), .bool y] 32)).heap.size = w6.heap.size + 1 := (by simp)
      have x_0 : (w6.alloc (.cells #[.int .i64 (Kd : Int), .int .i64 (K : Int), .int .i64 (C : Int), .int .i64 (T : Int), .int .i64 (M : Int), .int .i64 (F : Int), .bool y] 32)).cell? ⟨w6.heap.size, 0, none⟩ = some (.int .i64 (Kd : Int)) := var_cell _ _ _ _ _ rfl
      have x_1 : (w6.alloc (.cells #[.int .i64 (Kd : Int), .int .i64 (K : Int), .int .i64 (C : Int), .int .i64 (T : Int), .int .i64 (M : Int), .int .i64 (F : Int), .bool y] 32)).cell? ⟨w6.heap.size, 1, none⟩ = some (.int .i64 (K : Int)) := var_cell _ _ _ _ _ rfl
      have x_2 : (w6.alloc (.cells #[.int .i64 (Kd : Int), .int .i64 (K : Int), .int .i64 (C : Int), .int .i64 (T : Int), .int .i64 (M : Int), .int .i64 (F : Int), .bool y] 32)).cell? ⟨w6.heap.size, 2, none⟩ = some (.int .i64 (C : Int)) := var_cell _ _ _ _ _ rfl
      have x_3 : (w6.alloc (.cells #[.int .i64 (Kd : Int), .int .i64 (K : Int), .int .i64 (C : Int), .int .i64 (T : Int), .int .i64 (M : Int), .int .i64 (F : Int), .bool y] 32)).cell? ⟨w6.heap.size, 3, none⟩ = some (.int .i64 (T : Int)) := var_cell _ _ _ _ _ rfl
      have x_4 : (w6.alloc (.cells #[.int .i64 (Kd : Int), .int .i64 (K : Int), .int .i64 (C : Int), .int .i64 (T : Int), .int .i64 (M : Int), .int .i64 (F : Int), .bool y] 32)).cell? ⟨w6.heap.size, 4, none⟩ = some (.int .i64 (M : Int)) := var_cell _ _ _ _ _ rfl
      have x_5 : (w6.alloc (.cells #[.int .i64 (Kd : Int), .int .i64 (K : Int), .int .i64 (C : Int), .int .i64 (T : Int), .int .i64 (M : Int), .int .i64 (F : Int), .bool y] 32)).cell? ⟨w6.heap.size, 5, none⟩ = some (.int .i64 (F : Int)) := var_cell _ _ _ _ _ rfl
      have x_6 : (w6.alloc (.cells #[.int .i64 (Kd : Int), .int .i64 (K : Int), .int .i64 (C : Int), .int .i64 (T : Int), .int .i64 (M : Int), .int .i64 (F : Int), .bool y] 32)).cell? ⟨w6.heap.size, 6, none⟩ = some (.bool y) := var_cell _ _ _ _ _ rfl
      generalize (w6.alloc (.cells #[.int .i64 (Kd : Int), .int .i64 (K : Int), .int .i64 (C : Int), .int .i64 (T : Int), .int .i64 (M : Int), .int .i64 (F : Int), .bool y] 32)) = w7 at *
      have hz7 : w6.heap.size ≤ w7.heap.size := he7.size
      have b7 : Below W.heap.size W w7 := b6.trans (he7.below b6.size (by omega))
      replace hr := (hr.below (he7.below (B := W.heap.size) (by omega) (by omega)) (Nat.le_refl _))
      replace ob := ob.keep he7 (by omega)
      replace e_0 := he7.cell e_0 (by simp only; omega)
      replace e_1 := he7.cell e_1 (by simp only; omega)
      replace e_2 := he7.cell e_2 (by simp only; omega)
      replace e_3 := he7.cell e_3 (by simp only; omega)
      replace e_4 := he7.cell e_4 (by simp only; omega)
      replace e_5 := he7.cell e_5 (by simp only; omega)
      replace e_6 := he7.cell e_6 (by simp only; omega)
      replace e_l := Nat.lt_of_lt_of_le e_l hz7
      replace hT := hT.below he7.all
      replace hE := hE.below he7.all
      replace hM := hM.below he7.all
      have x_l : w6.heap.size < w7.heap.size := (by omega)
      clear e_0P e_1P e_2P e_3P e_4P e_5P e_6P
      refine (impl_TextEvent (bstr TX) (by rw [bstr_size]; omega) w7 hT hE hM).mono ?_
      rintro e w8 hp
      obtain ⟨k', key', ch', to', amt', fee', y', b', H2, rfl, hb⟩ := hp.get
      clear hp
      rw [bstr_list] at H2
      obtain ⟨q1, q2, q3, q4, q5, q6, q7, q8⟩ := evAns_one HANS.out H2.out
      rw [q1, q2, q3, q4, q5, q6, q7, q8]
      clear q1 q2 q3 q4 q5 q6 q7 q8 H2
      have he8 : Eff 0 0 w7 w8 := Eff.of hb
      have hz8 : w7.heap.size ≤ w8.heap.size := he8.size
      have b8 : Below W.heap.size W w8 := b7.trans (he8.below b7.size (by omega))
      replace hr := (hr.below (he8.below (B := W.heap.size) (by omega) (by omega)) (Nat.le_refl _))
      replace ob := ob.keep he8 (by omega)
      replace e_0 := he8.cell e_0 (by simp only; omega)
      replace e_1 := he8.cell e_1 (by simp only; omega)
      replace e_2 := he8.cell e_2 (by simp only; omega)
      replace e_3 := he8.cell e_3 (by simp only; omega)
      replace e_4 := he8.cell e_4 (by simp only; omega)
      replace e_5 := he8.cell e_5 (by simp only; omega)
      replace e_6 := he8.cell e_6 (by simp only; omega)
      replace x_0 := he8.cell x_0 (by simp only; omega)
      replace x_1 := he8.cell x_1 (by simp only; omega)
      replace x_2 := he8.cell x_2 (by simp only; omega)
      replace x_3 := he8.cell x_3 (by simp only; omega)
      replace x_4 := he8.cell x_4 (by simp only; omega)
      replace x_5 := he8.cell x_5 (by simp only; omega)
      replace x_6 := he8.cell x_6 (by simp only; omega)
      replace e_l := Nat.lt_of_lt_of_le e_l hz8
      replace x_l := Nat.lt_of_lt_of_le x_l hz8
      replace hT := hT.below he8.all
      replace hE := hE.below he8.all
      replace hM := hM.below he8.all
      clear hb
      have e_0P := (Eff.alloc w8 (.cells #[.int .i64 (Kd : Int), .int .i64 (K : Int), .int .i64 (C : Int), .int .i64 (T : Int), .int .i64 (M : Int), .int .i64 (F : Int), .bool y] 32)).cell e_0 (by simp only; omega)
      have e_1P := (Eff.alloc w8 (.cells #[.int .i64 (Kd : Int), .int .i64 (K : Int), .int .i64 (C : Int), .int .i64 (T : Int), .int .i64 (M : Int), .int .i64 (F : Int), .bool y] 32)).cell e_1 (by simp only; omega)
      have e_2P := (Eff.alloc w8 (.cells #[.int .i64 (Kd : Int), .int .i64 (K : Int), .int .i64 (C : Int), .int .i64 (T : Int), .int .i64 (M : Int), .int .i64 (F : Int), .bool y] 32)).cell e_2 (by simp only; omega)
      have e_3P := (Eff.alloc w8 (.cells #[.int .i64 (Kd : Int), .int .i64 (K : Int), .int .i64 (C : Int), .int .i64 (T : Int), .int .i64 (M : Int), .int .i64 (F : Int), .bool y] 32)).cell e_3 (by simp only; omega)
      have e_4P := (Eff.alloc w8 (.cells #[.int .i64 (Kd : Int), .int .i64 (K : Int), .int .i64 (C : Int), .int .i64 (T : Int), .int .i64 (M : Int), .int .i64 (F : Int), .bool y] 32)).cell e_4 (by simp only; omega)
      have e_5P := (Eff.alloc w8 (.cells #[.int .i64 (Kd : Int), .int .i64 (K : Int), .int .i64 (C : Int), .int .i64 (T : Int), .int .i64 (M : Int), .int .i64 (F : Int), .bool y] 32)).cell e_5 (by simp only; omega)
      have e_6P := (Eff.alloc w8 (.cells #[.int .i64 (Kd : Int), .int .i64 (K : Int), .int .i64 (C : Int), .int .i64 (T : Int), .int .i64 (M : Int), .int .i64 (F : Int), .bool y] 32)).cell e_6 (by simp only; omega)
      have x_0P := (Eff.alloc w8 (.cells #[.int .i64 (Kd : Int), .int .i64 (K : Int), .int .i64 (C : Int), .int .i64 (T : Int), .int .i64 (M : Int), .int .i64 (F : Int), .bool y] 32)).cell x_0 (by simp only; omega)
      have x_1P := (Eff.alloc w8 (.cells #[.int .i64 (Kd : Int), .int .i64 (K : Int), .int .i64 (C : Int), .int .i64 (T : Int), .int .i64 (M : Int), .int .i64 (F : Int), .bool y] 32)).cell x_1 (by simp only; omega)
      have x_2P := (Eff.alloc w8 (.cells #[.int .i64 (Kd : Int), .int .i64 (K : Int), .int .i64 (C : Int), .int .i64 (T : Int), .int .i64 (M : Int), .int .i64 (F : Int), .bool y] 32)).cell x_2 (by simp only; omega)
      have x_3P := (Eff.alloc w8 (.cells #[.int .i64 (Kd : Int), .int .i64 (K : Int), .int .i64 (C : Int), .int .i64 (T : Int), .int .i64 (M : Int), .int .i64 (F : Int), .bool y] 32)).cell x_3 (by simp only; omega)
      have x_4P := (Eff.alloc w8 (.cells #[.int .i64 (Kd : Int), .int .i64 (K : Int), .int .i64 (C : Int), .int .i64 (T : Int), .int .i64 (M : Int), .int .i64 (F : Int), .bool y] 32)).cell x_4 (by simp only; omega)
      have x_5P := (Eff.alloc w8 (.cells #[.int .i64 (Kd : Int), .int .i64 (K : Int), .int .i64 (C : Int), .int .i64 (T : Int), .int .i64 (M : Int), .int .i64 (F : Int), .bool y] 32)).cell x_5 (by simp only; omega)
      have x_6P := (Eff.alloc w8 (.cells #[.int .i64 (Kd : Int), .int .i64 (K : Int), .int .i64 (C : Int), .int .i64 (T : Int), .int .i64 (M : Int), .int .i64 (F : Int), .bool y] 32)).cell x_6 (by simp only; omega)
      go_wp2_with fail
      go_ret
      exact ⟨rfl, b8.trans ((Below.refl _ _).alloc (by omega) _)⟩
end Go.Proofs.YtnjdmmdbminmoaaDoor
