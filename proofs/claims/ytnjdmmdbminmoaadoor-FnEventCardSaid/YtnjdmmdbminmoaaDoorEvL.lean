/- Events in the laws: toEvent, eqEvent; the walk of the law on EventOk. -/
import Derived.Test.YtnjdmmdbminmoaaDoorEvS
import Derived.Test.YtnjdmmdbminmoaaDoorEvI
namespace Go.Proofs.YtnjdmmdbminmoaaDoor
open Go.RowKit
set_option maxHeartbeats 4000000 in
set_option maxRecDepth 100000 in
theorem toEvent_any (k key ch to amt fee : Int) (y : Bool) (w : World) : Calls Tryd.prog 35 #[.agg #[.int .i64 k, .int .i64 key, .int .i64 ch, .int .i64 to, .int .i64 amt, .int .i64 fee, .bool y]] w fun e w' => e = .returned (.agg #[.int .i64 k, .int .i64 key, .int .i64 ch, .int .i64 to, .int .i64 amt, .int .i64 fee, .bool y]) ∧ Below w.heap.size w w' := by
  go_enter Tryd.func35, Tryd.ntmps35
  go_wp2
  refine bodyPost_ret (v := .agg #[.int .i64 k, .int .i64 key, .int .i64 ch, .int .i64 to, .int .i64 amt, .int .i64 fee, .bool y]) (by simp [results, Tryd.results35, go_sem]) rfl ⟨rfl, ?_⟩
  repeat' (first | exact Below.refl _ _ | (refine Below.alloc ?_ ?_ _) | (refine Below.drew ?_) | (refine Below.setCell ?_ ?_ _) | (refine Below.trans ?_ (Below.mono (by assumption) ?_)) | omega | (simp; omega) | (simp; done) | exact Below.size (by assumption) | (refine Nat.le_trans ?_ (Below.size (by assumption))))
set_option maxHeartbeats 4000000 in
set_option maxRecDepth 100000 in
theorem eqEvent_same (k key ch to amt fee : Int) (y : Bool) (w : World) : Calls Tryd.prog 18 #[.agg #[.int .i64 k, .int .i64 key, .int .i64 ch, .int .i64 to, .int .i64 amt, .int .i64 fee, .bool y], .agg #[.int .i64 k, .int .i64 key, .int .i64 ch, .int .i64 to, .int .i64 amt, .int .i64 fee, .bool y]] w fun e w' => e = .returned (.bool true) ∧ Below w.heap.size w w' := by
  have e0 : (k != k) = false := by simp
  have e1 : (key != key) = false := by simp
  have e2 : (ch != ch) = false := by simp
  have e3 : (to != to) = false := by simp
  have e4 : (amt != amt) = false := by simp
  have e5 : (fee != fee) = false := by simp
  have e6 : (y != y) = false := by simp
  go_enter Tryd.func18, Tryd.ntmps18
  go_wp2
  go_ret
  exact ⟨rfl, ev_b2 _ _ _⟩
end Go.Proofs.YtnjdmmdbminmoaaDoor
