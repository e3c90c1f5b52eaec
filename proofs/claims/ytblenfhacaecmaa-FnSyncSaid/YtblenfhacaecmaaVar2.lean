/- Rows of literal cells. Over any program. -/
import Derived.Test.YtblenfhacaecmaaVar
namespace Go.Proofs.Ytblenfhacaecmaa
open Go.RowKit
/-- A new row of cells of a literal. -/
theorem new_rowN (w : World) (us : List Value) (e : TypeId) (h : us.length ≤ 1000 := by simp) : Own e 1 (w.alloc (.cells us.toArray e)) w.heap.size (w.heap.size + 1) (some ⟨w.heap.size, 0, none⟩) us.length us.length us :=
  ⟨⟨by simp, .inr ⟨w.heap.size, us.length, us.toArray, rfl, Nat.le_refl _, heap_alloc_new w _, Nat.le_refl _, by unfold maxLen; omega, by simp, by simp⟩⟩, fun k hk => by simp [Value.ownBlock] at hk; omega, by simp⟩
theorem rd_newN (w : World) (us : List Value) (t : TypeId) : Rd (w.alloc (.cells us.toArray t)) (w.heap.size + 1) 1 (some ⟨w.heap.size, 0, none⟩) us.length us := by
  refine ⟨by simp, .inr ⟨w.heap.size, 0, rfl, by omega, fun j v hv => ?_⟩⟩
  rw [cell_of_row _ w.heap.size _ _ _ _ (heap_alloc_new w _)]
  simpa using hv
end Go.Proofs.Ytblenfhacaecmaa
