/- The walk of the law on NumText. -/
import Derived.Test.YtnjdmmdbminmoaaDoorLib
namespace Go.Proofs.YtnjdmmdbminmoaaDoor
open Go.RowKit
theorem walk_FnExactNumText (n : Int) (_wn : (Lit.int .i64 n).wf = true) (W : World) (hT : PTab W) :
    Calls Tryd.prog 6 #[.int .i64 n] W fun e w' => e = .returned (.bool true) ∧ Below W.heap.size W w' := by
  obtain ⟨l, hl⟩ : ∃ l, nTx n = l := ⟨_, rfl⟩
  have hs : ∀ w, Calls Tryd.prog 24 #[.int .i64 n] w fun e w' => e = .returned (.string (bstr l)) ∧ Below w.heap.size w w' := fun w => hl ▸ spec_NumText n w
  have hi : ∀ w, PTab w → Calls Tryd.prog 25 #[.int .i64 n] w fun e w' => e = .returned (.string (bstr l)) ∧ Below w.heap.size w w' := fun w h => hl ▸ impl_NumText n w h
  have HS := Lib.hid hs
  have HI := Lib.hid hi
  have hne := bstr_eq l
  clear hs hi hl
  go_enter Tryd.func6, Tryd.ntmps6
  go_wp2_with fail
  refine (HS.out W).mono ?_
  rintro e w1 ⟨rfl, hb1⟩
  replace hT := hT.below hb1
  go_wp2_with fail
  refine (HI.out w1 hT).mono ?_
  rintro e w2 ⟨rfl, hb2⟩
  go_wp2_with fail
  go_ret
  exact ⟨rfl, hb1.trans (hb2.mono hb1.size)⟩
end Go.Proofs.YtnjdmmdbminmoaaDoor
