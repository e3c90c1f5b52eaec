/- An argument that is a disk, opened. -/
import Derived.Test.YtblenfhacaecmaaOpS
import Derived.Test.YtblenfhacaecmaaCel
namespace Go.Proofs.Ytblenfhacaecmaa
open Go.RowKit Go.ChangeShapes Go.WideShapes Go.Deep
section
variable {H : Type} {enc : TypeId × Value → H} {W : World} {held : Bool}
theorem open_CellT {fuel : Nat} {cs : List Value} {y : DataW H × List MemPlace} (h : DataW.trod enc Try.prog W 0 (fun _ => true) held fuel 98 cs = some y) : ∃ x : Ce, cs = x.f ∧ (Rd W W.heap.size 1 x.A x.n (Lib.byteCells x.l) ∧ x.n ≤ x.c ∧ x.c ≤ maxLen) := by
  have hl := trod_len Try.underlying98 h
  rw [show Try.prog.cellsOf 98 = 1 by kernel_rfl] at hl
  obtain ⟨_, y0, h0⟩ := field_cells Try.underlying98 h 0 _ rfl 27 0 1 rfl rfl (by kernel_rfl)
  match cs, hl with
  | [c0], _ =>
    simp only [List.drop_zero, List.take_succ_cons, List.take_zero] at h0
    obtain ⟨A, n, c, l, rfl, h1, h2, hr⟩ := open_bytesT Try.underlying27 Try.underlying5 (by kernel_rfl) h0
    exact ⟨⟨A, n, c, l⟩, rfl, hr, h1, h2⟩
theorem open_WriteT {fuel : Nat} {cs : List Value} {y : DataW H × List MemPlace} (h : DataW.trod enc Try.prog W 0 (fun _ => true) held fuel 100 cs = some y) : ∃ x : Wr, cs = x.f ∧ (Rd W W.heap.size 1 x.A x.n (Lib.byteCells x.l) ∧ x.n ≤ x.c ∧ x.c ≤ maxLen) := by
  have hl := trod_len Try.underlying100 h
  rw [show Try.prog.cellsOf 100 = 2 by kernel_rfl] at hl
  obtain ⟨_, y0, h0⟩ := field_cells Try.underlying100 h 0 _ rfl 3 0 1 rfl rfl (by kernel_rfl)
  obtain ⟨_, y1, h1⟩ := field_cells Try.underlying100 h 1 _ rfl 27 1 1 rfl rfl (by kernel_rfl)
  match cs, hl with
  | [c0, c1], _ =>
    simp only [List.drop_zero, List.take_succ_cons, List.take_zero] at h0
    simp only [List.drop_succ_cons, List.drop_zero, List.take_succ_cons, List.take_zero] at h1
    obtain ⟨a, rfl, _⟩ := open_int1 Try.underlying3 h0
    obtain ⟨A, n, c, l, rfl, h1, h2, hr⟩ := open_bytesT Try.underlying27 Try.underlying5 (by kernel_rfl) h1
    exact ⟨⟨a, A, n, c, l⟩, rfl, hr, h1, h2⟩
set_option maxRecDepth 100000 in
theorem open_Disk {r : Reach} {b0 : Nat} {v : Value} {d : DataW H} {p : List MemPlace} (hv : Value.okWide Try.prog W r b0 25 v) (h : DataW.Trod enc Try.prog W 0 (fun _ => true) held 25 v d p) :
    ∃ (Ac : Option Addr) (nc cc : Nat) (cs : List Ce) (Aw : Option Addr) (nw cw : Nat) (ws : List Wr), v = .agg #[.slice Ac nc cc, .slice Aw nw cw] ∧ (nc ≤ cc ∧ cc ≤ maxLen) ∧ (nw ≤ cw ∧ cw ≤ maxLen) ∧ RdCell W W.heap.size Ac nc cs ∧ RdWrite W W.heap.size Aw nw ws := by
  obtain ⟨c0, c1, y0, y1, m, rfl, rfl, rfl, hy0, hy1⟩ := Joins.open_agg2 Try.underlying25 (by kernel_rfl) (by kernel_rfl) hv h
  obtain ⟨Ac, nc, cc, cs, rfl, a1, a2, _, ra, pa⟩ := open_rows 1 Ce.f (fun x => Rd W W.heap.size 1 x.A x.n (Lib.byteCells x.l) ∧ x.n ≤ x.c ∧ x.c ≤ maxLen) Try.underlying22 (by kernel_rfl) (by omega) (fun _ => rfl) (fun _ _ _ h => open_CellT h) hy0
  obtain ⟨Aw, nw, cw, ws, rfl, b1, b2, _, rb, pb⟩ := open_rows 2 Wr.f (fun x => Rd W W.heap.size 1 x.A x.n (Lib.byteCells x.l) ∧ x.n ≤ x.c ∧ x.c ≤ maxLen) Try.underlying23 (by kernel_rfl) (by omega) (fun _ => rfl) (fun _ _ _ h => open_WriteT h) hy1
  exact ⟨Ac, nc, cc, cs, Aw, nw, cw, ws, rfl, ⟨a1, a2⟩, ⟨b1, b2⟩, ⟨ra, fun x hx => (pa x hx).1, fun x hx => (pa x hx).2⟩, ⟨rb, fun x hx => (pb x hx).1, fun x hx => (pb x hx).2⟩⟩
end
end Go.Proofs.Ytblenfhacaecmaa
