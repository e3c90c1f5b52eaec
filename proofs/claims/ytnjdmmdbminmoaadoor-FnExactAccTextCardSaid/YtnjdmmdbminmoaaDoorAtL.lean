/- The walk of the law on AccText. -/
import Derived.Test.YtnjdmmdbminmoaaDoorAt
namespace Go.Proofs.YtnjdmmdbminmoaaDoor
open Go.RowKit
theorem walk_FnExactAccText (k c : Int) (_wk : (Lit.int .i64 k).wf = true) (_wc : (Lit.int .i64 c).wf = true) (W : World) (hT : PTab W) (hM : PMax W) :
    Calls Tryd.prog 7 #[.agg #[.int .i64 k, .int .i64 c]] W fun e w' => e = .returned (.bool true) ∧ Below W.heap.size W w' := by
  obtain ⟨l, hl⟩ : ∃ l, accT k c = l := ⟨_, rfl⟩
  have hs : ∀ w, Calls Tryd.prog 26 #[.agg #[.int .i64 k, .int .i64 c]] w fun e w' => e = .returned (.string (bstr l)) ∧ Below w.heap.size w w' := fun w => hl ▸ spec_AccText k c w
  have hi : ∀ w, PTab w → PMax w → Calls Tryd.prog 13 #[.agg #[.int .i64 k, .int .i64 c]] w fun e w' => e = .returned (.string (bstr l)) ∧ Below w.heap.size w w' := fun w h h' => hl ▸ impl_AccText k c w h h'
  have HS := Lib.hid hs
  have HI := Lib.hid hi
  have hne := bstr_eq l
  clear hs hi hl
  go_enter Tryd.func7, Tryd.ntmps7
  go_wp2_with fail
  have b1 : Below W.heap.size W (W.alloc (.cells #[.int .i64 k, .int .i64 c] 45)) := below_one _ _
  have a_0 : (W.alloc (.cells #[.int .i64 k, .int .i64 c] 45)).cell? ⟨W.heap.size, 0, none⟩ = some (.int .i64 k) := var_cell _ _ _ _ _ rfl
  have a_1 : (W.alloc (.cells #[.int .i64 k, .int .i64 c] 45)).cell? ⟨W.heap.size, 1, none⟩ = some (.int .i64 c) := var_cell _ _ _ _ _ rfl
  have hs1 : (W.alloc (.cells #[.int .i64 k, .int .i64 c] 45)).heap.size = W.heap.size + 1 := by simp
  generalize (W.alloc (.cells #[.int .i64 k, .int .i64 c] 45)) = w1 at *
  replace hT := hT.below b1
  replace hM := hM.below b1
  have z1 : W.heap.size < w1.heap.size := by omega
  clear hs1
  refine (laws_toAcc k c w1).mono ?_
  rintro e w2 ⟨rfl, hb⟩
  have b2 := b1.trans (hb.mono b1.size)
  replace hT := hT.below hb
  replace hM := hM.below hb
  have z2 := hb.size
  replace a_0 := (hb.cell (p := ⟨W.heap.size, 0, none⟩) (by simp only; omega)).trans a_0
  replace a_1 := (hb.cell (p := ⟨W.heap.size, 1, none⟩) (by simp only; omega)).trans a_1
  clear hb
  go_wp2_with fail
  refine (HS.out w2).mono ?_
  rintro e w3 ⟨rfl, hb⟩
  have b3 := b2.trans (hb.mono b2.size)
  replace hT := hT.below hb
  replace hM := hM.below hb
  have z3 := hb.size
  replace a_0 := (hb.cell (p := ⟨W.heap.size, 0, none⟩) (by simp only; omega)).trans a_0
  replace a_1 := (hb.cell (p := ⟨W.heap.size, 1, none⟩) (by simp only; omega)).trans a_1
  clear hb
  go_wp2_with fail
  refine (laws_toAcc k c w3).mono ?_
  rintro e w4 ⟨rfl, hb⟩
  have b4 := b3.trans (hb.mono b3.size)
  replace hT := hT.below hb
  replace hM := hM.below hb
  clear hb
  go_wp2_with fail
  refine (HI.out w4 hT hM).mono ?_
  rintro e w5 ⟨rfl, hb⟩
  go_wp2_with fail
  go_ret
  exact ⟨rfl, b4.trans (hb.mono b4.size)⟩
end Go.Proofs.YtnjdmmdbminmoaaDoor
