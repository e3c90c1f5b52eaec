/- EventOk: the program, kinds 1 to 4 -/
import Derived.Test.YtnjdmmdbminmoaaDoorEvI0
namespace Go.Proofs.YtnjdmmdbminmoaaDoor
open Go.RowKit
theorem evOk_1 (key ch to amt fee : Int) (y : Bool) : evOk 1 key ch to amt fee y = true ↔ key = 0 ∧ ch = 0 ∧ to = 0 ∧ 1 ≤ amt ∧ amt ≤ 1125899906842624 ∧ fee = 0 ∧ y = false := by
  simp [evOk, evOkL, evH, fld, inB, and_assoc]
set_option linter.unusedSimpArgs false in
set_option maxHeartbeats 4000000 in
set_option maxRecDepth 100000 in
theorem impl_EventOk_1 (key ch to amt fee : Int) (y : Bool) (r : Bool) (HR : Hid (evOk 1 key ch to amt fee y = r)) (W : World) : Calls Tryd.prog 48 #[.agg #[.int .i64 1, .int .i64 key, .int .i64 ch, .int .i64 to, .int .i64 amt, .int .i64 fee, .bool y]] W fun e w' => e = .returned (.bool r) ∧ Below W.heap.size W w' := by
  rcases ha : inB amt 0 1125899906842624 with _ | _
  · skip
    go_enter Tryd.func48, Tryd.ntmps48
    go_wp2_with (first | (go_at_call 64; refine (impl_AmtOk _ _).mono ?_; rintro e w1 ⟨rfl, rfl⟩) | (go_at_call 65; refine (impl_isChan _ _).mono ?_; rintro e w1 ⟨rfl, rfl⟩) | (go_at_call 66; refine (impl_isKey _ _).mono ?_; rintro e w1 ⟨rfl, rfl⟩))
    (go_ret; refine ⟨ret_boolS ?_, by first | exact ev_b2d _ _ _ | exact ev_b2 _ _ _ | exact below1s _ _⟩; rw [← HR.out]; clear HR; rw [Bool.eq_iff_iff, evOk_1]; (try simp only [inB_iff, inB_not, bne_iff_ne, ne_eq, Bool.false_eq_true, false_iff, true_iff] at *); first | omega | (simp_all; done) | (simp_all; omega))
  · rcases hf : inB fee 0 1125899906842624 with _ | _
    · skip
      go_enter Tryd.func48, Tryd.ntmps48
      go_wp2_with (first | (go_at_call 64; refine (impl_AmtOk _ _).mono ?_; rintro e w1 ⟨rfl, rfl⟩) | (go_at_call 65; refine (impl_isChan _ _).mono ?_; rintro e w1 ⟨rfl, rfl⟩) | (go_at_call 66; refine (impl_isKey _ _).mono ?_; rintro e w1 ⟨rfl, rfl⟩))
      (go_ret; refine ⟨ret_boolS ?_, by first | exact ev_b2d _ _ _ | exact ev_b2 _ _ _ | exact below1s _ _⟩; rw [← HR.out]; clear HR; rw [Bool.eq_iff_iff, evOk_1]; (try simp only [inB_iff, inB_not, bne_iff_ne, ne_eq, Bool.false_eq_true, false_iff, true_iff] at *); first | omega | (simp_all; done) | (simp_all; omega))
    · skip
      go_enter Tryd.func48, Tryd.ntmps48
      go_wp2_with (first | (go_at_call 64; refine (impl_AmtOk _ _).mono ?_; rintro e w1 ⟨rfl, rfl⟩) | (go_at_call 65; refine (impl_isChan _ _).mono ?_; rintro e w1 ⟨rfl, rfl⟩) | (go_at_call 66; refine (impl_isKey _ _).mono ?_; rintro e w1 ⟨rfl, rfl⟩))
      all_goals
        (go_ret; refine ⟨ret_boolS ?_, by first | exact ev_b2d _ _ _ | exact ev_b2 _ _ _ | exact below1s _ _⟩; rw [← HR.out]; clear HR; rw [Bool.eq_iff_iff, evOk_1]; (try simp only [inB_iff, inB_not, bne_iff_ne, ne_eq, Bool.false_eq_true, false_iff, true_iff] at *); first | omega | (simp_all; done) | (simp_all; omega))
theorem evOk_2 (key ch to amt fee : Int) (y : Bool) : evOk 2 key ch to amt fee y = true ↔ key = 0 ∧ 1 ≤ ch ∧ ch ≤ 99 ∧ to = 0 ∧ 1 ≤ amt ∧ amt ≤ 1125899906842624 ∧ 0 ≤ fee ∧ fee ≤ 1125899906842624 ∧ y = false := by
  simp [evOk, evOkL, evH, fld, inB, and_assoc]
set_option linter.unusedSimpArgs false in
set_option maxHeartbeats 4000000 in
set_option maxRecDepth 100000 in
theorem impl_EventOk_2 (key ch to amt fee : Int) (y : Bool) (r : Bool) (HR : Hid (evOk 2 key ch to amt fee y = r)) (W : World) : Calls Tryd.prog 48 #[.agg #[.int .i64 2, .int .i64 key, .int .i64 ch, .int .i64 to, .int .i64 amt, .int .i64 fee, .bool y]] W fun e w' => e = .returned (.bool r) ∧ Below W.heap.size W w' := by
  rcases ha : inB amt 0 1125899906842624 with _ | _
  · skip
    go_enter Tryd.func48, Tryd.ntmps48
    go_wp2_with (first | (go_at_call 64; refine (impl_AmtOk _ _).mono ?_; rintro e w1 ⟨rfl, rfl⟩) | (go_at_call 65; refine (impl_isChan _ _).mono ?_; rintro e w1 ⟨rfl, rfl⟩) | (go_at_call 66; refine (impl_isKey _ _).mono ?_; rintro e w1 ⟨rfl, rfl⟩))
    (go_ret; refine ⟨ret_boolS ?_, by first | exact ev_b2d _ _ _ | exact ev_b2 _ _ _ | exact below1s _ _⟩; rw [← HR.out]; clear HR; rw [Bool.eq_iff_iff, evOk_2]; (try simp only [inB_iff, inB_not, bne_iff_ne, ne_eq, Bool.false_eq_true, false_iff, true_iff] at *); first | omega | (simp_all; done) | (simp_all; omega))
  · rcases hf : inB fee 0 1125899906842624 with _ | _
    · skip
      go_enter Tryd.func48, Tryd.ntmps48
      go_wp2_with (first | (go_at_call 64; refine (impl_AmtOk _ _).mono ?_; rintro e w1 ⟨rfl, rfl⟩) | (go_at_call 65; refine (impl_isChan _ _).mono ?_; rintro e w1 ⟨rfl, rfl⟩) | (go_at_call 66; refine (impl_isKey _ _).mono ?_; rintro e w1 ⟨rfl, rfl⟩))
      (go_ret; refine ⟨ret_boolS ?_, by first | exact ev_b2d _ _ _ | exact ev_b2 _ _ _ | exact below1s _ _⟩; rw [← HR.out]; clear HR; rw [Bool.eq_iff_iff, evOk_2]; (try simp only [inB_iff, inB_not, bne_iff_ne, ne_eq, Bool.false_eq_true, false_iff, true_iff] at *); first | omega | (simp_all; done) | (simp_all; omega))
    · skip
      go_enter Tryd.func48, Tryd.ntmps48
      go_wp2_with (first | (go_at_call 64; refine (impl_AmtOk _ _).mono ?_; rintro e w1 ⟨rfl, rfl⟩) | (go_at_call 65; refine (impl_isChan _ _).mono ?_; rintro e w1 ⟨rfl, rfl⟩) | (go_at_call 66; refine (impl_isKey _ _).mono ?_; rintro e w1 ⟨rfl, rfl⟩))
      go_region
      go_wp2_with (first | (go_at_call 64; refine (impl_AmtOk _ _).mono ?_; rintro e w1 ⟨rfl, rfl⟩) | (go_at_call 65; refine (impl_isChan _ _).mono ?_; rintro e w1 ⟨rfl, rfl⟩) | (go_at_call 66; refine (impl_isKey _ _).mono ?_; rintro e w1 ⟨rfl, rfl⟩))
      all_goals
        (go_ret; refine ⟨ret_boolS ?_, by first | exact ev_b2d _ _ _ | exact ev_b2 _ _ _ | exact below1s _ _⟩; rw [← HR.out]; clear HR; rw [Bool.eq_iff_iff, evOk_2]; (try simp only [inB_iff, inB_not, bne_iff_ne, ne_eq, Bool.false_eq_true, false_iff, true_iff] at *); first | omega | (simp_all; done) | (simp_all; omega))
theorem evOk_3 (key ch to amt fee : Int) (y : Bool) : evOk 3 key ch to amt fee y = true ↔ key = 0 ∧ 1 ≤ ch ∧ ch ≤ 99 ∧ to = 0 ∧ amt = 0 ∧ 0 ≤ fee ∧ fee ≤ 1125899906842624 ∧ y = false := by
  simp [evOk, evOkL, evH, fld, inB, and_assoc]
set_option linter.unusedSimpArgs false in
set_option maxHeartbeats 4000000 in
set_option maxRecDepth 100000 in
theorem impl_EventOk_3 (key ch to amt fee : Int) (y : Bool) (r : Bool) (HR : Hid (evOk 3 key ch to amt fee y = r)) (W : World) : Calls Tryd.prog 48 #[.agg #[.int .i64 3, .int .i64 key, .int .i64 ch, .int .i64 to, .int .i64 amt, .int .i64 fee, .bool y]] W fun e w' => e = .returned (.bool r) ∧ Below W.heap.size W w' := by
  rcases ha : inB amt 0 1125899906842624 with _ | _
  · skip
    go_enter Tryd.func48, Tryd.ntmps48
    go_wp2_with (first | (go_at_call 64; refine (impl_AmtOk _ _).mono ?_; rintro e w1 ⟨rfl, rfl⟩) | (go_at_call 65; refine (impl_isChan _ _).mono ?_; rintro e w1 ⟨rfl, rfl⟩) | (go_at_call 66; refine (impl_isKey _ _).mono ?_; rintro e w1 ⟨rfl, rfl⟩))
    (go_ret; refine ⟨ret_boolS ?_, by first | exact ev_b2d _ _ _ | exact ev_b2 _ _ _ | exact below1s _ _⟩; rw [← HR.out]; clear HR; rw [Bool.eq_iff_iff, evOk_3]; (try simp only [inB_iff, inB_not, bne_iff_ne, ne_eq, Bool.false_eq_true, false_iff, true_iff] at *); first | omega | (simp_all; done) | (simp_all; omega))
  · rcases hf : inB fee 0 1125899906842624 with _ | _
    · skip
      go_enter Tryd.func48, Tryd.ntmps48
      go_wp2_with (first | (go_at_call 64; refine (impl_AmtOk _ _).mono ?_; rintro e w1 ⟨rfl, rfl⟩) | (go_at_call 65; refine (impl_isChan _ _).mono ?_; rintro e w1 ⟨rfl, rfl⟩) | (go_at_call 66; refine (impl_isKey _ _).mono ?_; rintro e w1 ⟨rfl, rfl⟩))
      (go_ret; refine ⟨ret_boolS ?_, by first | exact ev_b2d _ _ _ | exact ev_b2 _ _ _ | exact below1s _ _⟩; rw [← HR.out]; clear HR; rw [Bool.eq_iff_iff, evOk_3]; (try simp only [inB_iff, inB_not, bne_iff_ne, ne_eq, Bool.false_eq_true, false_iff, true_iff] at *); first | omega | (simp_all; done) | (simp_all; omega))
    · skip
      go_enter Tryd.func48, Tryd.ntmps48
      go_wp2_with (first | (go_at_call 64; refine (impl_AmtOk _ _).mono ?_; rintro e w1 ⟨rfl, rfl⟩) | (go_at_call 65; refine (impl_isChan _ _).mono ?_; rintro e w1 ⟨rfl, rfl⟩) | (go_at_call 66; refine (impl_isKey _ _).mono ?_; rintro e w1 ⟨rfl, rfl⟩))
      go_region
      go_wp2_with (first | (go_at_call 64; refine (impl_AmtOk _ _).mono ?_; rintro e w1 ⟨rfl, rfl⟩) | (go_at_call 65; refine (impl_isChan _ _).mono ?_; rintro e w1 ⟨rfl, rfl⟩) | (go_at_call 66; refine (impl_isKey _ _).mono ?_; rintro e w1 ⟨rfl, rfl⟩))
      all_goals
        (go_ret; refine ⟨ret_boolS ?_, by first | exact ev_b2d _ _ _ | exact ev_b2 _ _ _ | exact below1s _ _⟩; rw [← HR.out]; clear HR; rw [Bool.eq_iff_iff, evOk_3]; (try simp only [inB_iff, inB_not, bne_iff_ne, ne_eq, Bool.false_eq_true, false_iff, true_iff] at *); first | omega | (simp_all; done) | (simp_all; omega))
theorem evOk_4 (key ch to amt fee : Int) (y : Bool) : evOk 4 key ch to amt fee y = true ↔ key = 0 ∧ 1 ≤ ch ∧ ch ≤ 99 ∧ to = 0 ∧ 0 ≤ amt ∧ amt ≤ 1125899906842624 ∧ 0 ≤ fee ∧ fee ≤ 1000000 ∧ y = false := by
  simp [evOk, evOkL, evH, fld, inB, and_assoc]
set_option linter.unusedSimpArgs false in
set_option maxHeartbeats 4000000 in
set_option maxRecDepth 100000 in
theorem impl_EventOk_4 (key ch to amt fee : Int) (y : Bool) (r : Bool) (HR : Hid (evOk 4 key ch to amt fee y = r)) (W : World) : Calls Tryd.prog 48 #[.agg #[.int .i64 4, .int .i64 key, .int .i64 ch, .int .i64 to, .int .i64 amt, .int .i64 fee, .bool y]] W fun e w' => e = .returned (.bool r) ∧ Below W.heap.size W w' := by
  rcases ha : inB amt 0 1125899906842624 with _ | _
  · skip
    go_enter Tryd.func48, Tryd.ntmps48
    go_wp2_with (first | (go_at_call 64; refine (impl_AmtOk _ _).mono ?_; rintro e w1 ⟨rfl, rfl⟩) | (go_at_call 65; refine (impl_isChan _ _).mono ?_; rintro e w1 ⟨rfl, rfl⟩) | (go_at_call 66; refine (impl_isKey _ _).mono ?_; rintro e w1 ⟨rfl, rfl⟩))
    (go_ret; refine ⟨ret_boolS ?_, by first | exact ev_b2d _ _ _ | exact ev_b2 _ _ _ | exact below1s _ _⟩; rw [← HR.out]; clear HR; rw [Bool.eq_iff_iff, evOk_4]; (try simp only [inB_iff, inB_not, bne_iff_ne, ne_eq, Bool.false_eq_true, false_iff, true_iff] at *); first | omega | (simp_all; done) | (simp_all; omega))
  · rcases hf : inB fee 0 1125899906842624 with _ | _
    · skip
      go_enter Tryd.func48, Tryd.ntmps48
      go_wp2_with (first | (go_at_call 64; refine (impl_AmtOk _ _).mono ?_; rintro e w1 ⟨rfl, rfl⟩) | (go_at_call 65; refine (impl_isChan _ _).mono ?_; rintro e w1 ⟨rfl, rfl⟩) | (go_at_call 66; refine (impl_isKey _ _).mono ?_; rintro e w1 ⟨rfl, rfl⟩))
      (go_ret; refine ⟨ret_boolS ?_, by first | exact ev_b2d _ _ _ | exact ev_b2 _ _ _ | exact below1s _ _⟩; rw [← HR.out]; clear HR; rw [Bool.eq_iff_iff, evOk_4]; (try simp only [inB_iff, inB_not, bne_iff_ne, ne_eq, Bool.false_eq_true, false_iff, true_iff] at *); first | omega | (simp_all; done) | (simp_all; omega))
    · skip
      go_enter Tryd.func48, Tryd.ntmps48
      go_wp2_with (first | (go_at_call 64; refine (impl_AmtOk _ _).mono ?_; rintro e w1 ⟨rfl, rfl⟩) | (go_at_call 65; refine (impl_isChan _ _).mono ?_; rintro e w1 ⟨rfl, rfl⟩) | (go_at_call 66; refine (impl_isKey _ _).mono ?_; rintro e w1 ⟨rfl, rfl⟩))
      go_region
      go_wp2_with (first | (go_at_call 64; refine (impl_AmtOk _ _).mono ?_; rintro e w1 ⟨rfl, rfl⟩) | (go_at_call 65; refine (impl_isChan _ _).mono ?_; rintro e w1 ⟨rfl, rfl⟩) | (go_at_call 66; refine (impl_isKey _ _).mono ?_; rintro e w1 ⟨rfl, rfl⟩))
      all_goals
        (go_ret; refine ⟨ret_boolS ?_, by first | exact ev_b2d _ _ _ | exact ev_b2 _ _ _ | exact below1s _ _⟩; rw [← HR.out]; clear HR; rw [Bool.eq_iff_iff, evOk_4]; (try simp only [inB_iff, inB_not, bne_iff_ne, ne_eq, Bool.false_eq_true, false_iff, true_iff] at *); first | omega | (simp_all; done) | (simp_all; omega))
end Go.Proofs.YtnjdmmdbminmoaaDoor
