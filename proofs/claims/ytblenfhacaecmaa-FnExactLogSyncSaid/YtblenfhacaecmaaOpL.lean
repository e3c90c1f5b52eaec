/- An argument that is a log, opened. -/
import Derived.Test.YtblenfhacaecmaaOpD
namespace Go.Proofs.Ytblenfhacaecmaa
open Go.RowKit Go.ChangeShapes Go.WideShapes Go.Deep
section
variable {H : Type} {enc : TypeId × Value → H} {W : World} {held : Bool}
set_option maxRecDepth 100000 in
theorem open_Log {r : Reach} {b0 : Nat} {v : Value} {d : DataW H} {p : List MemPlace} (hv : Value.okWide Try.prog W r b0 57 v) (h : DataW.Trod enc Try.prog W 0 (fun _ => true) held 57 v d p) :
    ∃ (Ac : Option Addr) (nc cc : Nat) (cs : List Ce) (Aw : Option Addr) (nw cw : Nat) (ws : List Wr) (x y : Int), v = .agg #[.slice Ac nc cc, .slice Aw nw cw, .int .i64 x, .int .i64 y] ∧ (nc ≤ cc ∧ cc ≤ maxLen) ∧ (nw ≤ cw ∧ cw ≤ maxLen) ∧ RdCell W W.heap.size Ac nc cs ∧ RdWrite W W.heap.size Aw nw ws ∧ (Lit.int .i64 x).wf = true ∧ (Lit.int .i64 y).wf = true := by
  have hC : Try.prog.cellsOf 57 = 4 := by kernel_rfl
  obtain ⟨es, rfl, hsz⟩ := okWide_struct Try.underlying57 hv
  obtain ⟨c0, c1, c2, c3, rfl⟩ := Joins.array4 (hsz.trans hC)
  obtain ⟨fuel, hf⟩ := h
  simp only [Value.cells] at hf
  obtain ⟨_, y0, h0⟩ := field_cells Try.underlying57 hf 0 _ rfl 25 0 2 rfl rfl (by kernel_rfl)
  obtain ⟨_, y1, h1⟩ := field_cells Try.underlying57 hf 1 _ rfl 3 2 1 rfl rfl (by kernel_rfl)
  obtain ⟨_, y2, h2⟩ := field_cells Try.underlying57 hf 2 _ rfl 3 3 1 rfl rfl (by kernel_rfl)
  simp only [List.drop_zero, List.take_succ_cons, List.take_zero, List.drop_succ_cons] at h0 h1 h2
  obtain ⟨x, rfl, wx⟩ := open_int1 Try.underlying3 h1
  obtain ⟨y, rfl, wy⟩ := open_int1 Try.underlying3 h2
  obtain ⟨_, z0, k0⟩ := field_of Try.underlying25 (by kernel_rfl) h0 0 _ rfl c0 rfl
  obtain ⟨_, z1, k1⟩ := field_of Try.underlying25 (by kernel_rfl) h0 1 _ rfl c1 rfl
  obtain ⟨Ac, nc, cc, cs, rfl, a1, a2, _, ra, pa⟩ := open_rows 1 Ce.f (fun x => Rd W W.heap.size 1 x.A x.n (Lib.byteCells x.l) ∧ x.n ≤ x.c ∧ x.c ≤ maxLen) Try.underlying22 (by kernel_rfl) (by omega) (fun _ => rfl) (fun _ _ _ h => open_CellT h) k0
  obtain ⟨Aw, nw, cw, ws, rfl, b1, b2, _, rb, pb⟩ := open_rows 2 Wr.f (fun x => Rd W W.heap.size 1 x.A x.n (Lib.byteCells x.l) ∧ x.n ≤ x.c ∧ x.c ≤ maxLen) Try.underlying23 (by kernel_rfl) (by omega) (fun _ => rfl) (fun _ _ _ h => open_WriteT h) k1
  exact ⟨Ac, nc, cc, cs, Aw, nw, cw, ws, x, y, rfl, ⟨a1, a2⟩, ⟨b1, b2⟩, ⟨ra, fun x hx => (pa x hx).1, fun x hx => (pa x hx).2⟩, ⟨rb, fun x hx => (pb x hx).1, fun x hx => (pb x hx).2⟩, wx, wy⟩
end
end Go.Proofs.Ytblenfhacaecmaa
