/- An argument that is an account, opened. -/
import Derived.Test.YtnjdmmdbminmoaaDoorAcc
import Derived.Lib.SmallJoins
import Derived.ChangeSame
namespace Go.Proofs.YtnjdmmdbminmoaaDoor
open Go.RowKit Go.Joins Go.ChangeShapes Go.WideShapes
set_option maxRecDepth 100000 in
theorem open_Acc {H : Type} {enc : TypeId × Value → H} {W : World} {base : Nat} {spare : Nat → Bool} {held : Bool} {r : Reach} {b0 : Nat} {v : Value} {d : DataW H} {p : List MemPlace}
    (h : DataW.Trod enc Tryd.prog W base spare held 45 v d p) (hv : Value.okWide Tryd.prog W r b0 45 v) :
    ∃ k c : Int, v = .agg #[.int .i64 k, .int .i64 c] ∧ (Lit.int .i64 k).wf = true ∧ (Lit.int .i64 c).wf = true := by
  obtain ⟨c0, c1, y0, y1, m, rfl, rfl, rfl, hy0, hy1⟩ := open_agg2 Tryd.underlying45 (by kernel_rfl) (by kernel_rfl) hv h
  obtain ⟨a, e0, rfl, wa⟩ := DataW.trod_int Tryd.underlying3 hy0
  obtain ⟨b, e1, rfl, wb⟩ := DataW.trod_int Tryd.underlying3 hy1
  simp at e0 e1
  subst e0 e1
  exact ⟨a, b, rfl, wa, wb⟩
end Go.Proofs.YtnjdmmdbminmoaaDoor
