/- Lines: a slice of lines as a list; toLine, toLineS, eqLineS, szLineS. -/
import Derived.Test.YtgjphejmppehjaaVar
import Derived.Test.YtgjphejmppehjaaAcc
import Derived.Deep.QuietTactic
import Derived.BigQuiet
namespace Go.Proofs.Ytgjphejmppehjaa
open Go.RowKit
/-- A line: an account's kind and channel, and an amount. -/
structure Ln where
  k : Int
  c : Int
  a : Int
def lnCells (ls : List Ln) : List Value := ls.flatMap fun x => [.int .i64 x.k, .int .i64 x.c, .int .i64 x.a]
theorem lnCells_len (ls : List Ln) : (lnCells ls).length = ls.length * 3 := by
  induction ls with
  | nil => rfl
  | cons x ls ih => simp only [lnCells, List.flatMap_cons, List.length_append, List.length_cons, List.length_nil] at ih ⊢; omega
theorem lnCells_get (ls : List Ln) (i : Nat) (h : i < ls.length) : (lnCells ls)[i * 3]? = some (.int .i64 ls[i].k) ∧ (lnCells ls)[i * 3 + 1]? = some (.int .i64 ls[i].c) ∧ (lnCells ls)[i * 3 + 2]? = some (.int .i64 ls[i].a) := by
  induction ls generalizing i with
  | nil => simp at h
  | cons x ls ih =>
    cases i with
    | zero => simp [lnCells]
    | succ i =>
      have := ih i (by simpa using h)
      simp only [lnCells, List.flatMap_cons] at this ⊢
      rw [show (i + 1) * 3 = i * 3 + 3 by omega]
      simpa using this
theorem info_Line : (Try.prog.info? 63).map (fun i => (i.zero, i.size, i.bytes)) = some (some (.agg #[.int .i64 0, .int .i64 0, .int .i64 0]), 3, 24) := by kernel_rfl
theorem below_set33 {W w : World} {u0 u1 u2 v0 v1 v2 : Value} (h : Below W.heap.size W w) :
    Below W.heap.size W ((((((w.setCell ⟨W.heap.size + 1 + 1, 0, none⟩ u0).setCell ⟨W.heap.size + 1 + 1, 1, none⟩ u1).setCell ⟨W.heap.size + 1 + 1, 2, none⟩ u2).setCell ⟨W.heap.size + 1, 0, none⟩ v0).setCell ⟨W.heap.size + 1, 1, none⟩ v1).setCell ⟨W.heap.size + 1, 2, none⟩ v2) :=
  (((((h.setCell (by simp only; omega) _).setCell (by simp only; omega) _).setCell (by simp only; omega) _).setCell (by simp only; omega) _).setCell (by simp only; omega) _).setCell (by simp only; omega) _
set_option maxHeartbeats 1000000 in
set_option maxRecDepth 100000 in
theorem toLine_any (k c a : Int) (W : World) : Calls Try.prog 48 #[.agg #[.int .i64 k, .int .i64 c, .int .i64 a]] W fun e w' => e = .returned (.agg #[.int .i64 k, .int .i64 c, .int .i64 a]) ∧ Below W.heap.size W w' := by
  go_enter Try.func48, Try.ntmps48
  go_wp2_with fail
  have he1 : Eff 0 0 W (W.alloc (.cells #[.int .i64 k, .int .i64 c, .int .i64 a] 78)) := Eff.alloc _ _
  have hs1 : (W.alloc (.cells #[.int .i64 k, .int .i64 c, .int .i64 a] 78)).heap.size = W.heap.size + 1 := (by simp)
  have aL_0 : (W.alloc (.cells #[.int .i64 k, .int .i64 c, .int .i64 a] 78)).cell? ⟨W.heap.size, 0, none⟩ = some (.int .i64 k) := var_cell _ _ _ _ _ rfl
  have aL_1 : (W.alloc (.cells #[.int .i64 k, .int .i64 c, .int .i64 a] 78)).cell? ⟨W.heap.size, 1, none⟩ = some (.int .i64 c) := var_cell _ _ _ _ _ rfl
  have aL_2 : (W.alloc (.cells #[.int .i64 k, .int .i64 c, .int .i64 a] 78)).cell? ⟨W.heap.size, 2, none⟩ = some (.int .i64 a) := var_cell _ _ _ _ _ rfl
  generalize (W.alloc (.cells #[.int .i64 k, .int .i64 c, .int .i64 a] 78)) = w1 at *
  have hz1 : W.heap.size ≤ w1.heap.size := he1.size
  have b1 : Below W.heap.size W w1 := he1.below (Nat.le_refl _) (by omega)
  have aL_l : W.heap.size < w1.heap.size := (by omega)
  have he2 : Eff 0 0 w1 (w1.alloc (.cells #[.int .i64 0, .int .i64 0, .int .i64 0] 63)) := Eff.alloc _ _
  have hs2 : (w1.alloc (.cells #[.int .i64 0, .int .i64 0, .int .i64 0] 63)).heap.size = w1.heap.size + 1 := (by simp)
  have res_0 : (w1.alloc (.cells #[.int .i64 0, .int .i64 0, .int .i64 0] 63)).cell? ⟨w1.heap.size, 0, none⟩ = some (.int .i64 0) := var_cell _ _ _ _ _ rfl
  have res_1 : (w1.alloc (.cells #[.int .i64 0, .int .i64 0, .int .i64 0] 63)).cell? ⟨w1.heap.size, 1, none⟩ = some (.int .i64 0) := var_cell _ _ _ _ _ rfl
  have res_2 : (w1.alloc (.cells #[.int .i64 0, .int .i64 0, .int .i64 0] 63)).cell? ⟨w1.heap.size, 2, none⟩ = some (.int .i64 0) := var_cell _ _ _ _ _ rfl
  have res_f0 : (w1.alloc (.cells #[.int .i64 0, .int .i64 0, .int .i64 0] 63)).frozen? ⟨w1.heap.size, 0, none⟩ = false := var_frozen _ _ _ _
  have res_f1 : (w1.alloc (.cells #[.int .i64 0, .int .i64 0, .int .i64 0] 63)).frozen? ⟨w1.heap.size, 1, none⟩ = false := var_frozen _ _ _ _
  have res_f2 : (w1.alloc (.cells #[.int .i64 0, .int .i64 0, .int .i64 0] 63)).frozen? ⟨w1.heap.size, 2, none⟩ = false := var_frozen _ _ _ _
  generalize (w1.alloc (.cells #[.int .i64 0, .int .i64 0, .int .i64 0] 63)) = w2 at *
  have hz2 : w1.heap.size ≤ w2.heap.size := he2.size
  have b2 : Below W.heap.size W w2 := b1.trans (he2.below b1.size (by omega))
  replace aL_0 := he2.cell aL_0 (by simp only; omega)
  replace aL_1 := he2.cell aL_1 (by simp only; omega)
  replace aL_2 := he2.cell aL_2 (by simp only; omega)
  replace aL_l := Nat.lt_of_lt_of_le aL_l hz2
  rw [hs1] at res_0 res_f0
  rw [hs1] at res_1 res_f1
  rw [hs1] at res_2 res_f2
  have res_l : W.heap.size + 1 < w2.heap.size := (by omega)
  have he3 : Eff 0 0 w2 (w2.alloc (.cells #[.int .i64 0, .int .i64 0, .int .i64 0] 63)) := Eff.alloc _ _
  have hs3 : (w2.alloc (.cells #[.int .i64 0, .int .i64 0, .int .i64 0] 63)).heap.size = w2.heap.size + 1 := (by simp)
  have out_0 : (w2.alloc (.cells #[.int .i64 0, .int .i64 0, .int .i64 0] 63)).cell? ⟨w2.heap.size, 0, none⟩ = some (.int .i64 0) := var_cell _ _ _ _ _ rfl
  have out_1 : (w2.alloc (.cells #[.int .i64 0, .int .i64 0, .int .i64 0] 63)).cell? ⟨w2.heap.size, 1, none⟩ = some (.int .i64 0) := var_cell _ _ _ _ _ rfl
  have out_2 : (w2.alloc (.cells #[.int .i64 0, .int .i64 0, .int .i64 0] 63)).cell? ⟨w2.heap.size, 2, none⟩ = some (.int .i64 0) := var_cell _ _ _ _ _ rfl
  have out_f0 : (w2.alloc (.cells #[.int .i64 0, .int .i64 0, .int .i64 0] 63)).frozen? ⟨w2.heap.size, 0, none⟩ = false := var_frozen _ _ _ _
  have out_f1 : (w2.alloc (.cells #[.int .i64 0, .int .i64 0, .int .i64 0] 63)).frozen? ⟨w2.heap.size, 1, none⟩ = false := var_frozen _ _ _ _
  have out_f2 : (w2.alloc (.cells #[.int .i64 0, .int .i64 0, .int .i64 0] 63)).frozen? ⟨w2.heap.size, 2, none⟩ = false := var_frozen _ _ _ _
  generalize (w2.alloc (.cells #[.int .i64 0, .int .i64 0, .int .i64 0] 63)) = w3 at *
  have hz3 : w2.heap.size ≤ w3.heap.size := he3.size
  have b3 : Below W.heap.size W w3 := b2.trans (he3.below b2.size (by omega))
  replace res_f0 := (he3.frozen res_0 (by simp only; omega)).trans res_f0
  replace res_f1 := (he3.frozen res_1 (by simp only; omega)).trans res_f1
  replace res_f2 := (he3.frozen res_2 (by simp only; omega)).trans res_f2
  replace aL_0 := he3.cell aL_0 (by simp only; omega)
  replace aL_1 := he3.cell aL_1 (by simp only; omega)
  replace aL_2 := he3.cell aL_2 (by simp only; omega)
  replace res_0 := he3.cell res_0 (by simp only; omega)
  replace res_1 := he3.cell res_1 (by simp only; omega)
  replace res_2 := he3.cell res_2 (by simp only; omega)
  replace aL_l := Nat.lt_of_lt_of_le aL_l hz3
  replace res_l := Nat.lt_of_lt_of_le res_l hz3
  rw [hs2, hs1] at out_0 out_f0
  rw [hs2, hs1] at out_1 out_f1
  rw [hs2, hs1] at out_2 out_f2
  have out_l : W.heap.size + 1 + 1 < w3.heap.size := (by omega)
  refine (laws_toAcc k c w3).mono ?_
  rintro e w4 ⟨rfl, hb⟩
  have he4 : Eff 0 0 w3 w4 := Eff.of hb
  have hz4 : w3.heap.size ≤ w4.heap.size := he4.size
  have b4 : Below W.heap.size W w4 := b3.trans (he4.below b3.size (by omega))
  replace res_f0 := (he4.frozen res_0 (by simp only; omega)).trans res_f0
  replace res_f1 := (he4.frozen res_1 (by simp only; omega)).trans res_f1
  replace res_f2 := (he4.frozen res_2 (by simp only; omega)).trans res_f2
  replace out_f0 := (he4.frozen out_0 (by simp only; omega)).trans out_f0
  replace out_f1 := (he4.frozen out_1 (by simp only; omega)).trans out_f1
  replace out_f2 := (he4.frozen out_2 (by simp only; omega)).trans out_f2
  replace aL_0 := he4.cell aL_0 (by simp only; omega)
  replace aL_1 := he4.cell aL_1 (by simp only; omega)
  replace aL_2 := he4.cell aL_2 (by simp only; omega)
  replace res_0 := he4.cell res_0 (by simp only; omega)
  replace res_1 := he4.cell res_1 (by simp only; omega)
  replace res_2 := he4.cell res_2 (by simp only; omega)
  replace out_0 := he4.cell out_0 (by simp only; omega)
  replace out_1 := he4.cell out_1 (by simp only; omega)
  replace out_2 := he4.cell out_2 (by simp only; omega)
  replace aL_l := Nat.lt_of_lt_of_le aL_l hz4
  replace res_l := Nat.lt_of_lt_of_le res_l hz4
  replace out_l := Nat.lt_of_lt_of_le out_l hz4
  clear hb
  go_wp2
  refine bodyPost_ret (v := .agg #[.int .i64 k, .int .i64 c, .int .i64 a]) (by simp [results, Try.results48, go_sem, *]) rfl ⟨rfl, ?_⟩
  exact below_set33 b4
end Go.Proofs.Ytgjphejmppehjaa
