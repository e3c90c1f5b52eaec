/- EventOk: the program, all kinds -/
import Derived.Test.YtnjdmmdbminmoaaDoorEvI1
import Derived.Test.YtnjdmmdbminmoaaDoorEvI5
import Derived.Test.YtnjdmmdbminmoaaDoorEvI9
namespace Go.Proofs.YtnjdmmdbminmoaaDoor
open Go.RowKit
theorem evOk_6 (key ch to amt fee : Int) (y : Bool) : evOk 6 key ch to amt fee y = true ↔ 1 ≤ key ∧ key ≤ 1000000 ∧ ch = 0 ∧ to = 0 ∧ amt = 0 ∧ fee = 0 ∧ y = false := by
  simp [evOk, evOkL, evH, fld, inB, and_assoc]
set_option linter.unusedSimpArgs false in
set_option maxHeartbeats 4000000 in
set_option maxRecDepth 100000 in
theorem impl_EventOk_6 (key ch to amt fee : Int) (y : Bool) (r : Bool) (HR : Hid (evOk 6 key ch to amt fee y = r)) (W : World) : Calls Tryd.prog 48 #[.agg #[.int .i64 6, .int .i64 key, .int .i64 ch, .int .i64 to, .int .i64 amt, .int .i64 fee, .bool y]] W fun e w' => e = .returned (.bool r) ∧ Below W.heap.size W w' := by
  rcases ha : inB amt 0 1125899906842624 with _ | _
  · skip
    go_enter Tryd.func48, Tryd.ntmps48
    go_wp2_with (first | (go_at_call 64; refine (impl_AmtOk _ _).mono ?_; rintro e w1 ⟨rfl, rfl⟩) | (go_at_call 65; refine (impl_isChan _ _).mono ?_; rintro e w1 ⟨rfl, rfl⟩) | (go_at_call 66; refine (impl_isKey _ _).mono ?_; rintro e w1 ⟨rfl, rfl⟩))
    (go_ret; refine ⟨ret_boolS ?_, by first | exact ev_b2d _ _ _ | exact ev_b2 _ _ _ | exact below1s _ _⟩; rw [← HR.out]; clear HR; rw [Bool.eq_iff_iff, evOk_6]; (try simp only [inB_iff, inB_not, bne_iff_ne, ne_eq, Bool.false_eq_true, false_iff, true_iff] at *); first | omega | (simp_all; done) | (simp_all; omega))
  · rcases hf : inB fee 0 1125899906842624 with _ | _
    · skip
      go_enter Tryd.func48, Tryd.ntmps48
      go_wp2_with (first | (go_at_call 64; refine (impl_AmtOk _ _).mono ?_; rintro e w1 ⟨rfl, rfl⟩) | (go_at_call 65; refine (impl_isChan _ _).mono ?_; rintro e w1 ⟨rfl, rfl⟩) | (go_at_call 66; refine (impl_isKey _ _).mono ?_; rintro e w1 ⟨rfl, rfl⟩))
      (go_ret; refine ⟨ret_boolS ?_, by first | exact ev_b2d _ _ _ | exact ev_b2 _ _ _ | exact below1s _ _⟩; rw [← HR.out]; clear HR; rw [Bool.eq_iff_iff, evOk_6]; (try simp only [inB_iff, inB_not, bne_iff_ne, ne_eq, Bool.false_eq_true, false_iff, true_iff] at *); first | omega | (simp_all; done) | (simp_all; omega))
    · skip
      go_enter Tryd.func48, Tryd.ntmps48
      go_wp2_with (first | (go_at_call 64; refine (impl_AmtOk _ _).mono ?_; rintro e w1 ⟨rfl, rfl⟩) | (go_at_call 65; refine (impl_isChan _ _).mono ?_; rintro e w1 ⟨rfl, rfl⟩) | (go_at_call 66; refine (impl_isKey _ _).mono ?_; rintro e w1 ⟨rfl, rfl⟩))
      all_goals
        (go_ret; refine ⟨ret_boolS ?_, by first | exact ev_b2d _ _ _ | exact ev_b2 _ _ _ | exact below1s _ _⟩; rw [← HR.out]; clear HR; rw [Bool.eq_iff_iff, evOk_6]; (try simp only [inB_iff, inB_not, bne_iff_ne, ne_eq, Bool.false_eq_true, false_iff, true_iff] at *); first | omega | (simp_all; done) | (simp_all; omega))
theorem evOk_7 (key ch to amt fee : Int) (y : Bool) : evOk 7 key ch to amt fee y = true ↔ 1 ≤ key ∧ key ≤ 1000000 ∧ ch = 0 ∧ to = 0 ∧ amt = 0 ∧ fee = 0 ∧ y = false := by
  simp [evOk, evOkL, evH, fld, inB, and_assoc]
set_option linter.unusedSimpArgs false in
set_option maxHeartbeats 4000000 in
set_option maxRecDepth 100000 in
theorem impl_EventOk_7 (key ch to amt fee : Int) (y : Bool) (r : Bool) (HR : Hid (evOk 7 key ch to amt fee y = r)) (W : World) : Calls Tryd.prog 48 #[.agg #[.int .i64 7, .int .i64 key, .int .i64 ch, .int .i64 to, .int .i64 amt, .int .i64 fee, .bool y]] W fun e w' => e = .returned (.bool r) ∧ Below W.heap.size W w' := by
  rcases ha : inB amt 0 1125899906842624 with _ | _
  · skip
    go_enter Tryd.func48, Tryd.ntmps48
    go_wp2_with (first | (go_at_call 64; refine (impl_AmtOk _ _).mono ?_; rintro e w1 ⟨rfl, rfl⟩) | (go_at_call 65; refine (impl_isChan _ _).mono ?_; rintro e w1 ⟨rfl, rfl⟩) | (go_at_call 66; refine (impl_isKey _ _).mono ?_; rintro e w1 ⟨rfl, rfl⟩))
    (go_ret; refine ⟨ret_boolS ?_, by first | exact ev_b2d _ _ _ | exact ev_b2 _ _ _ | exact below1s _ _⟩; rw [← HR.out]; clear HR; rw [Bool.eq_iff_iff, evOk_7]; (try simp only [inB_iff, inB_not, bne_iff_ne, ne_eq, Bool.false_eq_true, false_iff, true_iff] at *); first | omega | (simp_all; done) | (simp_all; omega))
  · rcases hf : inB fee 0 1125899906842624 with _ | _
    · skip
      go_enter Tryd.func48, Tryd.ntmps48
      go_wp2_with (first | (go_at_call 64; refine (impl_AmtOk _ _).mono ?_; rintro e w1 ⟨rfl, rfl⟩) | (go_at_call 65; refine (impl_isChan _ _).mono ?_; rintro e w1 ⟨rfl, rfl⟩) | (go_at_call 66; refine (impl_isKey _ _).mono ?_; rintro e w1 ⟨rfl, rfl⟩))
      (go_ret; refine ⟨ret_boolS ?_, by first | exact ev_b2d _ _ _ | exact ev_b2 _ _ _ | exact below1s _ _⟩; rw [← HR.out]; clear HR; rw [Bool.eq_iff_iff, evOk_7]; (try simp only [inB_iff, inB_not, bne_iff_ne, ne_eq, Bool.false_eq_true, false_iff, true_iff] at *); first | omega | (simp_all; done) | (simp_all; omega))
    · skip
      go_enter Tryd.func48, Tryd.ntmps48
      go_wp2_with (first | (go_at_call 64; refine (impl_AmtOk _ _).mono ?_; rintro e w1 ⟨rfl, rfl⟩) | (go_at_call 65; refine (impl_isChan _ _).mono ?_; rintro e w1 ⟨rfl, rfl⟩) | (go_at_call 66; refine (impl_isKey _ _).mono ?_; rintro e w1 ⟨rfl, rfl⟩))
      all_goals
        (go_ret; refine ⟨ret_boolS ?_, by first | exact ev_b2d _ _ _ | exact ev_b2 _ _ _ | exact below1s _ _⟩; rw [← HR.out]; clear HR; rw [Bool.eq_iff_iff, evOk_7]; (try simp only [inB_iff, inB_not, bne_iff_ne, ne_eq, Bool.false_eq_true, false_iff, true_iff] at *); first | omega | (simp_all; done) | (simp_all; omega))
theorem evOk_8 (key ch to amt fee : Int) (y : Bool) : evOk 8 key ch to amt fee y = true ↔ key = 0 ∧ ch = 0 ∧ to = 0 ∧ amt = 0 ∧ fee = 0 ∧ y = false := by
  simp [evOk, evOkL, evH, fld, inB, and_assoc]
set_option linter.unusedSimpArgs false in
set_option maxHeartbeats 4000000 in
set_option maxRecDepth 100000 in
theorem impl_EventOk_8 (key ch to amt fee : Int) (y : Bool) (r : Bool) (HR : Hid (evOk 8 key ch to amt fee y = r)) (W : World) : Calls Tryd.prog 48 #[.agg #[.int .i64 8, .int .i64 key, .int .i64 ch, .int .i64 to, .int .i64 amt, .int .i64 fee, .bool y]] W fun e w' => e = .returned (.bool r) ∧ Below W.heap.size W w' := by
  rcases ha : inB amt 0 1125899906842624 with _ | _
  · skip
    go_enter Tryd.func48, Tryd.ntmps48
    go_wp2_with (first | (go_at_call 64; refine (impl_AmtOk _ _).mono ?_; rintro e w1 ⟨rfl, rfl⟩) | (go_at_call 65; refine (impl_isChan _ _).mono ?_; rintro e w1 ⟨rfl, rfl⟩) | (go_at_call 66; refine (impl_isKey _ _).mono ?_; rintro e w1 ⟨rfl, rfl⟩))
    (go_ret; refine ⟨ret_boolS ?_, by first | exact ev_b2d _ _ _ | exact ev_b2 _ _ _ | exact below1s _ _⟩; rw [← HR.out]; clear HR; rw [Bool.eq_iff_iff, evOk_8]; (try simp only [inB_iff, inB_not, bne_iff_ne, ne_eq, Bool.false_eq_true, false_iff, true_iff] at *); first | omega | (simp_all; done) | (simp_all; omega))
  · rcases hf : inB fee 0 1125899906842624 with _ | _
    · skip
      go_enter Tryd.func48, Tryd.ntmps48
      go_wp2_with (first | (go_at_call 64; refine (impl_AmtOk _ _).mono ?_; rintro e w1 ⟨rfl, rfl⟩) | (go_at_call 65; refine (impl_isChan _ _).mono ?_; rintro e w1 ⟨rfl, rfl⟩) | (go_at_call 66; refine (impl_isKey _ _).mono ?_; rintro e w1 ⟨rfl, rfl⟩))
      (go_ret; refine ⟨ret_boolS ?_, by first | exact ev_b2d _ _ _ | exact ev_b2 _ _ _ | exact below1s _ _⟩; rw [← HR.out]; clear HR; rw [Bool.eq_iff_iff, evOk_8]; (try simp only [inB_iff, inB_not, bne_iff_ne, ne_eq, Bool.false_eq_true, false_iff, true_iff] at *); first | omega | (simp_all; done) | (simp_all; omega))
    · skip
      go_enter Tryd.func48, Tryd.ntmps48
      go_wp2_with (first | (go_at_call 64; refine (impl_AmtOk _ _).mono ?_; rintro e w1 ⟨rfl, rfl⟩) | (go_at_call 65; refine (impl_isChan _ _).mono ?_; rintro e w1 ⟨rfl, rfl⟩) | (go_at_call 66; refine (impl_isKey _ _).mono ?_; rintro e w1 ⟨rfl, rfl⟩))
      all_goals
        (go_ret; refine ⟨ret_boolS ?_, by first | exact ev_b2d _ _ _ | exact ev_b2 _ _ _ | exact below1s _ _⟩; rw [← HR.out]; clear HR; rw [Bool.eq_iff_iff, evOk_8]; (try simp only [inB_iff, inB_not, bne_iff_ne, ne_eq, Bool.false_eq_true, false_iff, true_iff] at *); first | omega | (simp_all; done) | (simp_all; omega))
theorem evOk_10 (key ch to amt fee : Int) (y : Bool) : evOk 10 key ch to amt fee y = true ↔ 1 ≤ key ∧ key ≤ 1000000 ∧ ch = 0 ∧ to = 0 ∧ amt = 0 ∧ fee = 0 ∧ y = false := by
  simp [evOk, evOkL, evH, fld, inB, and_assoc]
set_option linter.unusedSimpArgs false in
set_option maxHeartbeats 4000000 in
set_option maxRecDepth 100000 in
theorem impl_EventOk_10 (key ch to amt fee : Int) (y : Bool) (r : Bool) (HR : Hid (evOk 10 key ch to amt fee y = r)) (W : World) : Calls Tryd.prog 48 #[.agg #[.int .i64 10, .int .i64 key, .int .i64 ch, .int .i64 to, .int .i64 amt, .int .i64 fee, .bool y]] W fun e w' => e = .returned (.bool r) ∧ Below W.heap.size W w' := by
  rcases ha : inB amt 0 1125899906842624 with _ | _
  · skip
    go_enter Tryd.func48, Tryd.ntmps48
    go_wp2_with (first | (go_at_call 64; refine (impl_AmtOk _ _).mono ?_; rintro e w1 ⟨rfl, rfl⟩) | (go_at_call 65; refine (impl_isChan _ _).mono ?_; rintro e w1 ⟨rfl, rfl⟩) | (go_at_call 66; refine (impl_isKey _ _).mono ?_; rintro e w1 ⟨rfl, rfl⟩))
    (go_ret; refine ⟨ret_boolS ?_, by first | exact ev_b2d _ _ _ | exact ev_b2 _ _ _ | exact below1s _ _⟩; rw [← HR.out]; clear HR; rw [Bool.eq_iff_iff, evOk_10]; (try simp only [inB_iff, inB_not, bne_iff_ne, ne_eq, Bool.false_eq_true, false_iff, true_iff] at *); first | omega | (simp_all; done) | (simp_all; omega))
  · rcases hf : inB fee 0 1125899906842624 with _ | _
    · skip
      go_enter Tryd.func48, Tryd.ntmps48
      go_wp2_with (first | (go_at_call 64; refine (impl_AmtOk _ _).mono ?_; rintro e w1 ⟨rfl, rfl⟩) | (go_at_call 65; refine (impl_isChan _ _).mono ?_; rintro e w1 ⟨rfl, rfl⟩) | (go_at_call 66; refine (impl_isKey _ _).mono ?_; rintro e w1 ⟨rfl, rfl⟩))
      (go_ret; refine ⟨ret_boolS ?_, by first | exact ev_b2d _ _ _ | exact ev_b2 _ _ _ | exact below1s _ _⟩; rw [← HR.out]; clear HR; rw [Bool.eq_iff_iff, evOk_10]; (try simp only [inB_iff, inB_not, bne_iff_ne, ne_eq, Bool.false_eq_true, false_iff, true_iff] at *); first | omega | (simp_all; done) | (simp_all; omega))
    · skip
      go_enter Tryd.func48, Tryd.ntmps48
      go_wp2_with (first | (go_at_call 64; refine (impl_AmtOk _ _).mono ?_; rintro e w1 ⟨rfl, rfl⟩) | (go_at_call 65; refine (impl_isChan _ _).mono ?_; rintro e w1 ⟨rfl, rfl⟩) | (go_at_call 66; refine (impl_isKey _ _).mono ?_; rintro e w1 ⟨rfl, rfl⟩))
      all_goals
        (go_ret; refine ⟨ret_boolS ?_, by first | exact ev_b2d _ _ _ | exact ev_b2 _ _ _ | exact below1s _ _⟩; rw [← HR.out]; clear HR; rw [Bool.eq_iff_iff, evOk_10]; (try simp only [inB_iff, inB_not, bne_iff_ne, ne_eq, Bool.false_eq_true, false_iff, true_iff] at *); first | omega | (simp_all; done) | (simp_all; omega))
theorem evOk_11 (key ch to amt fee : Int) (y : Bool) : evOk 11 key ch to amt fee y = true ↔ 1 ≤ key ∧ key ≤ 1000000 ∧ ch = 0 ∧ to = 0 ∧ amt = 0 ∧ fee = 0 ∧ y = false := by
  simp [evOk, evOkL, evH, fld, inB, and_assoc]
set_option linter.unusedSimpArgs false in
set_option maxHeartbeats 4000000 in
set_option maxRecDepth 100000 in
theorem impl_EventOk_11 (key ch to amt fee : Int) (y : Bool) (r : Bool) (HR : Hid (evOk 11 key ch to amt fee y = r)) (W : World) : Calls Tryd.prog 48 #[.agg #[.int .i64 11, .int .i64 key, .int .i64 ch, .int .i64 to, .int .i64 amt, .int .i64 fee, .bool y]] W fun e w' => e = .returned (.bool r) ∧ Below W.heap.size W w' := by
  rcases ha : inB amt 0 1125899906842624 with _ | _
  · skip
    go_enter Tryd.func48, Tryd.ntmps48
    go_wp2_with (first | (go_at_call 64; refine (impl_AmtOk _ _).mono ?_; rintro e w1 ⟨rfl, rfl⟩) | (go_at_call 65; refine (impl_isChan _ _).mono ?_; rintro e w1 ⟨rfl, rfl⟩) | (go_at_call 66; refine (impl_isKey _ _).mono ?_; rintro e w1 ⟨rfl, rfl⟩))
    (go_ret; refine ⟨ret_boolS ?_, by first | exact ev_b2d _ _ _ | exact ev_b2 _ _ _ | exact below1s _ _⟩; rw [← HR.out]; clear HR; rw [Bool.eq_iff_iff, evOk_11]; (try simp only [inB_iff, inB_not, bne_iff_ne, ne_eq, Bool.false_eq_true, false_iff, true_iff] at *); first | omega | (simp_all; done) | (simp_all; omega))
  · rcases hf : inB fee 0 1125899906842624 with _ | _
    · skip
      go_enter Tryd.func48, Tryd.ntmps48
      go_wp2_with (first | (go_at_call 64; refine (impl_AmtOk _ _).mono ?_; rintro e w1 ⟨rfl, rfl⟩) | (go_at_call 65; refine (impl_isChan _ _).mono ?_; rintro e w1 ⟨rfl, rfl⟩) | (go_at_call 66; refine (impl_isKey _ _).mono ?_; rintro e w1 ⟨rfl, rfl⟩))
      (go_ret; refine ⟨ret_boolS ?_, by first | exact ev_b2d _ _ _ | exact ev_b2 _ _ _ | exact below1s _ _⟩; rw [← HR.out]; clear HR; rw [Bool.eq_iff_iff, evOk_11]; (try simp only [inB_iff, inB_not, bne_iff_ne, ne_eq, Bool.false_eq_true, false_iff, true_iff] at *); first | omega | (simp_all; done) | (simp_all; omega))
    · skip
      go_enter Tryd.func48, Tryd.ntmps48
      go_wp2_with (first | (go_at_call 64; refine (impl_AmtOk _ _).mono ?_; rintro e w1 ⟨rfl, rfl⟩) | (go_at_call 65; refine (impl_isChan _ _).mono ?_; rintro e w1 ⟨rfl, rfl⟩) | (go_at_call 66; refine (impl_isKey _ _).mono ?_; rintro e w1 ⟨rfl, rfl⟩))
      all_goals
        (go_ret; refine ⟨ret_boolS ?_, by first | exact ev_b2d _ _ _ | exact ev_b2 _ _ _ | exact below1s _ _⟩; rw [← HR.out]; clear HR; rw [Bool.eq_iff_iff, evOk_11]; (try simp only [inB_iff, inB_not, bne_iff_ne, ne_eq, Bool.false_eq_true, false_iff, true_iff] at *); first | omega | (simp_all; done) | (simp_all; omega))
set_option maxHeartbeats 4000000 in
set_option maxRecDepth 100000 in
theorem impl_EventOk (k key ch to amt fee : Int) (y : Bool) (W : World) : Calls Tryd.prog 48 #[.agg #[.int .i64 k, .int .i64 key, .int .i64 ch, .int .i64 to, .int .i64 amt, .int .i64 fee, .bool y]] W fun e w' => e = .returned (.bool (evOk k key ch to amt fee y)) ∧ Below W.heap.size W w' := by
  rcases hk : inB k 1 11 with _ | _
  · have HB := Lib.hid (evOk_kind (key := key) (ch := ch) (to := to) (amt := amt) (fee := fee) (y := y) hk)
    rw [HB.out]
    clear HB
    have hk' := inB_gt hk
    clear hk
    have n1 : (k == 1) = false := by simp; omega
    have n2 : (k == 2) = false := by simp; omega
    have n3 : (k == 3) = false := by simp; omega
    have n4 : (k == 4) = false := by simp; omega
    have n5 : (k == 5) = false := by simp; omega
    have n6 : (k == 6) = false := by simp; omega
    have n7 : (k == 7) = false := by simp; omega
    have n8 : (k == 8) = false := by simp; omega
    have n9 : (k == 9) = false := by simp; omega
    have n10 : (k == 10) = false := by simp; omega
    have n11 : (k == 11) = false := by simp; omega
    clear hk'
    go_enter Tryd.func48, Tryd.ntmps48
    go_wp2_with (go_at_call 64; refine (impl_AmtOk _ _).mono ?_; rintro e w1 ⟨rfl, rfl⟩)
    all_goals
      go_ret
      exact ⟨rfl, by first | exact ev_b2d _ _ _ | exact ev_b2 _ _ _ | exact below1s _ _⟩
  · have hk' := inB_le hk
    clear hk
    have hc : k = 1 ∨ k = 2 ∨ k = 3 ∨ k = 4 ∨ k = 5 ∨ k = 6 ∨ k = 7 ∨ k = 8 ∨ k = 9 ∨ k = 10 ∨ k = 11 := by omega
    rcases hc with rfl | rfl | rfl | rfl | rfl | rfl | rfl | rfl | rfl | rfl | rfl
    · exact impl_EventOk_1 key ch to amt fee y _ (Lib.hid rfl) W
    · exact impl_EventOk_2 key ch to amt fee y _ (Lib.hid rfl) W
    · exact impl_EventOk_3 key ch to amt fee y _ (Lib.hid rfl) W
    · exact impl_EventOk_4 key ch to amt fee y _ (Lib.hid rfl) W
    · exact impl_EventOk_5 key ch to amt fee y _ (Lib.hid rfl) W
    · exact impl_EventOk_6 key ch to amt fee y _ (Lib.hid rfl) W
    · exact impl_EventOk_7 key ch to amt fee y _ (Lib.hid rfl) W
    · exact impl_EventOk_8 key ch to amt fee y _ (Lib.hid rfl) W
    · exact impl_EventOk_9 key ch to amt fee y _ (Lib.hid rfl) W
    · exact impl_EventOk_10 key ch to amt fee y _ (Lib.hid rfl) W
    · exact impl_EventOk_11 key ch to amt fee y _ (Lib.hid rfl) W
end Go.Proofs.YtnjdmmdbminmoaaDoor
