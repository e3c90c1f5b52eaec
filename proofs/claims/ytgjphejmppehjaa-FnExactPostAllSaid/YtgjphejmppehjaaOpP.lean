/- An argument that is a slice of postings, opened. -/
import Derived.Test.YtgjphejmppehjaaOpS
import Derived.Test.YtgjphejmppehjaaPsg
namespace Go.Proofs.Ytgjphejmppehjaa
open Go.RowKit Go.ChangeShapes Go.WideShapes Go.Deep
section
variable {H : Type} {enc : TypeId × Value → H} {W : World} {held : Bool}
theorem open_PostingT {fuel : Nat} {cs : List Value} {y : DataW H × List MemPlace} (h : DataW.trod enc Try.prog W 0 (fun _ => true) held fuel 39 cs = some y) : ∃ x : Ps, cs = x.f ∧ (Rd W W.heap.size 3 x.A x.n (lnCells x.l) ∧ x.n ≤ x.c ∧ x.c ≤ maxLen) := by
  have hl := trod_len Try.underlying39 h
  rw [show Try.prog.cellsOf 39 = 2 by kernel_rfl] at hl
  obtain ⟨_, y0, h0⟩ := field_cells Try.underlying39 h 0 _ rfl 3 0 1 rfl rfl (by kernel_rfl)
  obtain ⟨_, y1, h1⟩ := field_cells Try.underlying39 h 1 _ rfl 22 1 1 rfl rfl (by kernel_rfl)
  match cs, hl with
  | [c0, c1], _ =>
    simp only [List.drop_zero, List.take_succ_cons, List.take_zero] at h0
    simp only [List.drop_succ_cons, List.drop_zero, List.take_succ_cons, List.take_zero] at h1
    obtain ⟨a, rfl, _⟩ := open_int1 Try.underlying3 h0
    obtain ⟨A, n, c, ls, rfl, h1, h2, hr⟩ := open_LinesT h1
    exact ⟨⟨a, A, n, c, ls⟩, rfl, hr, h1, h2⟩
set_option maxRecDepth 100000 in
theorem open_Postings {r : Reach} {b0 : Nat} {v : Value} {d : DataW H} {p : List MemPlace} (hv : Value.okWide Try.prog W r b0 65 v) (h : DataW.Trod enc Try.prog W 0 (fun _ => true) held 65 v d p) :
    ∃ (A : Option Addr) (n c : Nat) (es : List Ps), v = .slice A n c ∧ n ≤ c ∧ c ≤ maxLen ∧ RdPosting W W.heap.size A n es := by
  obtain ⟨a0, len, cap, rfl⟩ := okWide_slice Try.underlying65 hv
  obtain ⟨fuel, hf⟩ := h
  obtain ⟨A, n, c, es, hv2, a1, a2, _, ra, pa⟩ := open_rows 2 Ps.f (fun x => Rd W W.heap.size 3 x.A x.n (lnCells x.l) ∧ x.n ≤ x.c ∧ x.c ≤ maxLen) Try.underlying65 (by kernel_rfl) (by omega) (fun _ => rfl) (fun _ _ _ h => open_PostingT h) (by simpa [Value.cells] using hf)
  exact ⟨A, n, c, es, hv2, a1, a2, ra, fun x hx => (pa x hx).1, fun x hx => (pa x hx).2⟩
end
end Go.Proofs.Ytgjphejmppehjaa
