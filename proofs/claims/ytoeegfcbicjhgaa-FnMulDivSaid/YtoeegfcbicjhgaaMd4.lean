/- Fee and FeeUp: program and reference; the walks of their exact laws. -/
import Derived.Test.YtoeegfcbicjhgaaMd3
namespace Go.Proofs.Ytoeegfcbicjhgaa
open Go.RowKit

theorem impl_Fee (base ppm n : Int) (w : World) :
    Calls Try.prog 31 #[.int .i64 base, .int .i64 ppm, .int .i64 n] w fun e w' => e = .returned (.tuple #[.int .i64 (feeM base ppm n false).1, .bool (feeM base ppm n false).2]) ∧ Below w.heap.size w w' := by
  go_enter Try.func31, Try.ntmps31
  go_wp2_with (go_at_call 41; refine (impl_fee _ _ _ _ _).mono ?_; rintro e w1 ⟨rfl, hb1⟩)
  go_ret2
  exact ⟨rfl, by assumption⟩
theorem spec_Fee (base ppm n : Int) (w : World) :
    Calls Try.prog 30 #[.int .i64 base, .int .i64 ppm, .int .i64 n] w fun e w' => e = .returned (.tuple #[.int .i64 (feeM base ppm n false).1, .bool (feeM base ppm n false).2]) ∧ w = w' := by
  go_enter Try.func30, Try.ntmps30
  go_wp2_with (go_at_call 40; refine (spec_l01Fee _ _ _ _ _).mono ?_; rintro e w1 ⟨rfl, rfl⟩)
  go_ret2
  exact ⟨rfl, rfl⟩
theorem walk_FnExactFee (a : Int) (_wa : (Lit.int .i64 a).wf = true) (b : Int) (_wb : (Lit.int .i64 b).wf = true) (c : Int) (_wc : (Lit.int .i64 c).wf = true) (W : World) :
    Calls Try.prog 11 #[.int .i64 a, .int .i64 b, .int .i64 c] W fun e w' => e = .returned (.bool true) ∧ Below W.heap.size W w' := by
  go_enter Try.func11, Try.ntmps11
  go_wp2_with (first | (go_at_call 30; refine (spec_Fee _ _ _ _).mono ?_; rintro e w1 ⟨rfl, rfl⟩) | (go_at_call 31; refine (impl_Fee _ _ _ _).mono ?_; rintro e w1 ⟨rfl, hb1⟩; have hz1 := hb1.size; (try simp at hz1)))
  go_ret
  refine ⟨rfl, ?_⟩
  repeat' (first | exact Below.refl _ _ | (refine Below.alloc ?_ ?_ _) | (refine Below.drew ?_) | (refine Below.setCell ?_ ?_ _) | (refine Below.trans ?_ (Below.mono (by assumption) ?_)) | omega | (simp; omega) | (simp; done))

theorem impl_FeeUp (base ppm n : Int) (w : World) :
    Calls Try.prog 33 #[.int .i64 base, .int .i64 ppm, .int .i64 n] w fun e w' => e = .returned (.tuple #[.int .i64 (feeM base ppm n true).1, .bool (feeM base ppm n true).2]) ∧ Below w.heap.size w w' := by
  go_enter Try.func33, Try.ntmps33
  go_wp2_with (go_at_call 41; refine (impl_fee _ _ _ _ _).mono ?_; rintro e w1 ⟨rfl, hb1⟩)
  go_ret2
  exact ⟨rfl, by assumption⟩
theorem spec_FeeUp (base ppm n : Int) (w : World) :
    Calls Try.prog 32 #[.int .i64 base, .int .i64 ppm, .int .i64 n] w fun e w' => e = .returned (.tuple #[.int .i64 (feeM base ppm n true).1, .bool (feeM base ppm n true).2]) ∧ w = w' := by
  go_enter Try.func32, Try.ntmps32
  go_wp2_with (go_at_call 40; refine (spec_l01Fee _ _ _ _ _).mono ?_; rintro e w1 ⟨rfl, rfl⟩)
  go_ret2
  exact ⟨rfl, rfl⟩
theorem walk_FnExactFeeUp (a : Int) (_wa : (Lit.int .i64 a).wf = true) (b : Int) (_wb : (Lit.int .i64 b).wf = true) (c : Int) (_wc : (Lit.int .i64 c).wf = true) (W : World) :
    Calls Try.prog 12 #[.int .i64 a, .int .i64 b, .int .i64 c] W fun e w' => e = .returned (.bool true) ∧ Below W.heap.size W w' := by
  go_enter Try.func12, Try.ntmps12
  go_wp2_with (first | (go_at_call 32; refine (spec_FeeUp _ _ _ _).mono ?_; rintro e w1 ⟨rfl, rfl⟩) | (go_at_call 33; refine (impl_FeeUp _ _ _ _).mono ?_; rintro e w1 ⟨rfl, hb1⟩; have hz1 := hb1.size; (try simp at hz1)))
  go_ret
  refine ⟨rfl, ?_⟩
  repeat' (first | exact Below.refl _ _ | (refine Below.alloc ?_ ?_ _) | (refine Below.drew ?_) | (refine Below.setCell ?_ ?_ _) | (refine Below.trans ?_ (Below.mono (by assumption) ?_)) | omega | (simp; omega) | (simp; done))
end Go.Proofs.Ytoeegfcbicjhgaa
