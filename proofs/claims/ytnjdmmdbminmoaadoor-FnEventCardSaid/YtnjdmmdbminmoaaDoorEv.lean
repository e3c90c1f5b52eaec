/- EventOk: program and reference, kind by kind. -/
import Derived.Test.YtnjdmmdbminmoaaDoorSec
import Derived.Laws.StructEq
import Derived.Deep.QuietTactic
import Derived.BigQuiet
import Derived.RegionTactic
import Derived.ChangeAlike
namespace Go.Proofs.YtnjdmmdbminmoaaDoor
open Go.RowKit
theorem quiet_add_same {P : Program} {f : FuncId} {args : Array Value} {w : World} {a n : Nat} {v : Value}
    (h : Calls P f args (w.drewN (a + n)) fun e w' => e = .returned v ∧ w' = w.drewN (a + n)) :
    Calls P f args (w.drewN (a + n)) fun e w'' => e = .returned v ∧ ∃ m, w'' = w.drewN (a + m) :=
  h.mono fun _ _ ⟨he, hm⟩ => ⟨he, n, hm⟩
theorem ev_b2 (w : World) (o o' : Obj) : Below w.heap.size w ((w.alloc o).alloc o') := ((Below.refl _ _).alloc (Nat.le_refl _) _).alloc (by simp) _
theorem ev_b2d (w : World) (o o' : Obj) : Below w.heap.size w ((w.alloc o).alloc o').drew := (ev_b2 w o o').drew
theorem ev_b2n (w : World) (o o' : Obj) (n : Nat) : Below w.heap.size w (((w.alloc o).alloc o').drewN n) := below_dr (ev_b2 w o o') n
theorem ev_b2nn (w : World) (o o' : Obj) (n m : Nat) : Below w.heap.size w ((((w.alloc o).alloc o').drewN n).drewN m) := below_dr (ev_b2n w o o' n) m
theorem ev_bel {W w1 : World} {o : Obj} (h : Eff 0 0 (W.alloc o) w1) : Below W.heap.size W w1 := ((Eff.alloc W o).trans h).below (Nat.le_refl _) (.inr (Nat.le_refl _))
theorem cell_dr {w : World} {p : Addr} {u : Value} (n : Nat) (h : w.cell? p = some u) : (w.drewN n).cell? p = some u := h
theorem inB_iff {n lo hi : Int} : inB n lo hi = true ↔ lo ≤ n ∧ n ≤ hi := by simp [inB]
theorem inB_not {n lo hi : Int} : inB n lo hi = false ↔ n < lo ∨ hi < n := by rw [← Bool.not_eq_true, inB_iff]; omega
/-- A field that a kind has is in its bounds; one that it has not is 0. -/
def fld (b : Bool) (n lo hi : Int) : Bool := if b then inB n lo hi else n == 0
/-- Which fields a kind has. -/
def evH (k : Int) : Bool × Bool × Bool × Bool × Bool × Bool :=
  if k = 1 then (false, false, false, true, false, false)
  else if k = 2 then (false, true, false, true, true, false)
  else if k = 3 then (false, true, false, false, true, false)
  else if k = 4 then (false, true, false, true, true, false)
  else if k = 5 then (true, true, true, true, false, true)
  else if k = 6 then (true, false, false, false, false, false)
  else if k = 7 then (true, false, false, false, false, false)
  else if k = 8 then (false, false, false, false, false, false)
  else if k = 9 then (true, true, true, true, true, false)
  else if k = 10 then (true, false, false, false, false, false)
  else if k = 11 then (true, false, false, false, false, false)
  else (true, false, false, false, false, false)
/-- Is it an event? The fields that its kind has are c0 .. c5. -/
def evOkL (c0 c1 c2 c3 c4 c5 : Bool) (k least most key ch to amt fee : Int) (y : Bool) : Bool :=
  inB k 1 11 && fld c0 key 1 1000000 && fld c1 ch 1 99 && fld c2 to 1 99 && !(c2 && (ch == to)) && fld c3 amt least 1125899906842624 && fld c4 fee 0 most && (c5 || !y)
/-- Is it an event? -/
def evOk (k key ch to amt fee : Int) (y : Bool) : Bool :=
  evOkL (evH k).1 (evH k).2.1 (evH k).2.2.1 (evH k).2.2.2.1 (evH k).2.2.2.2.1 (evH k).2.2.2.2.2 k (if k = 4 then 0 else 1) (if k = 4 then 1000000 else 1125899906842624) key ch to amt fee y
theorem evOkL_in {c0 c1 c2 c3 c4 c5 : Bool} {k least most key ch to amt fee : Int} {y : Bool} (h : 1 ≤ k ∧ k ≤ 11) : evOkL c0 c1 c2 c3 c4 c5 k least most key ch to amt fee y =
    (fld c0 key 1 1000000 && fld c1 ch 1 99 && fld c2 to 1 99 && !(c2 && (ch == to)) && fld c3 amt least 1125899906842624 && fld c4 fee 0 most && (c5 || !y)) := by
  simp [evOkL, inB_true h.1 h.2]
theorem evOk_kind {k key ch to amt fee : Int} {y : Bool} (h : inB k 1 11 = false) : evOk k key ch to amt fee y = false := by simp [evOk, evOkL, h]
theorem inB_1_11 : inB 1 1 11 = true ∧ inB 2 1 11 = true ∧ inB 3 1 11 = true ∧ inB 4 1 11 = true ∧ inB 5 1 11 = true ∧ inB 6 1 11 = true ∧ inB 7 1 11 = true ∧ inB 8 1 11 = true ∧ inB 9 1 11 = true ∧ inB 10 1 11 = true ∧ inB 11 1 11 = true := by simp [inB]
theorem l04Has_0 (W : World) : Calls Tryd.prog 45 #[.int .i64 0] W fun e w' => e = .returned (.slice (some ⟨W.heap.size, 0, none⟩) 6 6) ∧ W.alloc (.cells #[.bool true, .bool false, .bool false, .bool false, .bool false, .bool false] 4) = w' := by
  go_enter Tryd.func45, Tryd.ntmps45
  go_wp2
  go_ret
  exact ⟨rfl, rfl⟩
theorem l04Has_1 (W : World) : Calls Tryd.prog 45 #[.int .i64 1] W fun e w' => e = .returned (.slice (some ⟨W.heap.size, 0, none⟩) 6 6) ∧ W.alloc (.cells #[.bool false, .bool false, .bool false, .bool true, .bool false, .bool false] 4) = w' := by
  go_enter Tryd.func45, Tryd.ntmps45
  go_wp2
  go_ret
  exact ⟨rfl, rfl⟩
theorem l04Has_2 (W : World) : Calls Tryd.prog 45 #[.int .i64 2] W fun e w' => e = .returned (.slice (some ⟨W.heap.size, 0, none⟩) 6 6) ∧ W.alloc (.cells #[.bool false, .bool true, .bool false, .bool true, .bool true, .bool false] 4) = w' := by
  go_enter Tryd.func45, Tryd.ntmps45
  go_wp2
  go_ret
  exact ⟨rfl, rfl⟩
theorem l04Has_3 (W : World) : Calls Tryd.prog 45 #[.int .i64 3] W fun e w' => e = .returned (.slice (some ⟨W.heap.size, 0, none⟩) 6 6) ∧ W.alloc (.cells #[.bool false, .bool true, .bool false, .bool false, .bool true, .bool false] 4) = w' := by
  go_enter Tryd.func45, Tryd.ntmps45
  go_wp2
  go_ret
  exact ⟨rfl, rfl⟩
theorem l04Has_4 (W : World) : Calls Tryd.prog 45 #[.int .i64 4] W fun e w' => e = .returned (.slice (some ⟨W.heap.size, 0, none⟩) 6 6) ∧ W.alloc (.cells #[.bool false, .bool true, .bool false, .bool true, .bool true, .bool false] 4) = w' := by
  go_enter Tryd.func45, Tryd.ntmps45
  go_wp2
  go_ret
  exact ⟨rfl, rfl⟩
theorem l04Has_5 (W : World) : Calls Tryd.prog 45 #[.int .i64 5] W fun e w' => e = .returned (.slice (some ⟨W.heap.size, 0, none⟩) 6 6) ∧ W.alloc (.cells #[.bool true, .bool true, .bool true, .bool true, .bool false, .bool true] 4) = w' := by
  go_enter Tryd.func45, Tryd.ntmps45
  go_wp2
  go_ret
  exact ⟨rfl, rfl⟩
theorem l04Has_6 (W : World) : Calls Tryd.prog 45 #[.int .i64 6] W fun e w' => e = .returned (.slice (some ⟨W.heap.size, 0, none⟩) 6 6) ∧ W.alloc (.cells #[.bool true, .bool false, .bool false, .bool false, .bool false, .bool false] 4) = w' := by
  go_enter Tryd.func45, Tryd.ntmps45
  go_wp2
  go_ret
  exact ⟨rfl, rfl⟩
theorem l04Has_7 (W : World) : Calls Tryd.prog 45 #[.int .i64 7] W fun e w' => e = .returned (.slice (some ⟨W.heap.size, 0, none⟩) 6 6) ∧ W.alloc (.cells #[.bool true, .bool false, .bool false, .bool false, .bool false, .bool false] 4) = w' := by
  go_enter Tryd.func45, Tryd.ntmps45
  go_wp2
  go_ret
  exact ⟨rfl, rfl⟩
theorem l04Has_8 (W : World) : Calls Tryd.prog 45 #[.int .i64 8] W fun e w' => e = .returned (.slice (some ⟨W.heap.size, 0, none⟩) 6 6) ∧ W.alloc (.cells #[.bool false, .bool false, .bool false, .bool false, .bool false, .bool false] 4) = w' := by
  go_enter Tryd.func45, Tryd.ntmps45
  go_wp2
  go_ret
  exact ⟨rfl, rfl⟩
theorem l04Has_9 (W : World) : Calls Tryd.prog 45 #[.int .i64 9] W fun e w' => e = .returned (.slice (some ⟨W.heap.size, 0, none⟩) 6 6) ∧ W.alloc (.cells #[.bool true, .bool true, .bool true, .bool true, .bool true, .bool false] 4) = w' := by
  go_enter Tryd.func45, Tryd.ntmps45
  go_wp2
  go_ret
  exact ⟨rfl, rfl⟩
theorem l04Has_10 (W : World) : Calls Tryd.prog 45 #[.int .i64 10] W fun e w' => e = .returned (.slice (some ⟨W.heap.size, 0, none⟩) 6 6) ∧ W.alloc (.cells #[.bool true, .bool false, .bool false, .bool false, .bool false, .bool false] 4) = w' := by
  go_enter Tryd.func45, Tryd.ntmps45
  go_wp2
  go_ret
  exact ⟨rfl, rfl⟩
theorem l04Has_11 (W : World) : Calls Tryd.prog 45 #[.int .i64 11] W fun e w' => e = .returned (.slice (some ⟨W.heap.size, 0, none⟩) 6 6) ∧ W.alloc (.cells #[.bool true, .bool false, .bool false, .bool false, .bool false, .bool false] 4) = w' := by
  go_enter Tryd.func45, Tryd.ntmps45
  go_wp2
  go_ret
  exact ⟨rfl, rfl⟩
theorem has_cells {w : World} {b0 b1 b2 b3 b4 b5 : Bool} {t : TypeId} {B : Nat} (hB : w.heap.size = B) :
    (w.alloc (.cells #[.bool b0, .bool b1, .bool b2, .bool b3, .bool b4, .bool b5] t)).cell? ⟨B, 0, none⟩ = some (.bool b0) ∧ (w.alloc (.cells #[.bool b0, .bool b1, .bool b2, .bool b3, .bool b4, .bool b5] t)).cell? ⟨B, 1, none⟩ = some (.bool b1) ∧
    (w.alloc (.cells #[.bool b0, .bool b1, .bool b2, .bool b3, .bool b4, .bool b5] t)).cell? ⟨B, 2, none⟩ = some (.bool b2) ∧ (w.alloc (.cells #[.bool b0, .bool b1, .bool b2, .bool b3, .bool b4, .bool b5] t)).cell? ⟨B, 3, none⟩ = some (.bool b3) ∧
    (w.alloc (.cells #[.bool b0, .bool b1, .bool b2, .bool b3, .bool b4, .bool b5] t)).cell? ⟨B, 4, none⟩ = some (.bool b4) ∧ (w.alloc (.cells #[.bool b0, .bool b1, .bool b2, .bool b3, .bool b4, .bool b5] t)).cell? ⟨B, 5, none⟩ = some (.bool b5) ∧
    Eff 0 0 w (w.alloc (.cells #[.bool b0, .bool b1, .bool b2, .bool b3, .bool b4, .bool b5] t)) := by
  subst hB
  exact ⟨var_cell _ _ _ _ _ rfl, var_cell _ _ _ _ _ rfl, var_cell _ _ _ _ _ rfl, var_cell _ _ _ _ _ rfl, var_cell _ _ _ _ _ rfl, var_cell _ _ _ _ _ rfl, Eff.alloc _ _⟩
/-- What l04Has leaves: six marks in a new block B. -/
def HasC (c : Bool × Bool × Bool × Bool × Bool × Bool) (B : Nat) (w : World) (e : Ending) (w' : World) : Prop :=
  e = .returned (.slice (some ⟨B, 0, none⟩) 6 6) ∧ w'.cell? ⟨B, 0, none⟩ = some (.bool c.1) ∧ w'.cell? ⟨B, 1, none⟩ = some (.bool c.2.1) ∧ w'.cell? ⟨B, 2, none⟩ = some (.bool c.2.2.1) ∧ w'.cell? ⟨B, 3, none⟩ = some (.bool c.2.2.2.1) ∧ w'.cell? ⟨B, 4, none⟩ = some (.bool c.2.2.2.2.1) ∧ w'.cell? ⟨B, 5, none⟩ = some (.bool c.2.2.2.2.2) ∧ Eff 0 0 w w'
theorem l04HasC (k : Int) (h0 : 0 ≤ k) (h11 : k ≤ 11) (B : Nat) (w : World) (hB : w.heap.size = B) : Calls Tryd.prog 45 #[.int .i64 k] w (HasC (evH k) B w) := by
  have hc : k = 0 ∨ k = 1 ∨ k = 2 ∨ k = 3 ∨ k = 4 ∨ k = 5 ∨ k = 6 ∨ k = 7 ∨ k = 8 ∨ k = 9 ∨ k = 10 ∨ k = 11 := by omega
  rcases hc with rfl | rfl | rfl | rfl | rfl | rfl | rfl | rfl | rfl | rfl | rfl | rfl
  · exact (l04Has_0 w).mono fun e w' ⟨he, hw⟩ => by subst he hw; exact ⟨by rw [hB], has_cells hB⟩
  · exact (l04Has_1 w).mono fun e w' ⟨he, hw⟩ => by subst he hw; exact ⟨by rw [hB], has_cells hB⟩
  · exact (l04Has_2 w).mono fun e w' ⟨he, hw⟩ => by subst he hw; exact ⟨by rw [hB], has_cells hB⟩
  · exact (l04Has_3 w).mono fun e w' ⟨he, hw⟩ => by subst he hw; exact ⟨by rw [hB], has_cells hB⟩
  · exact (l04Has_4 w).mono fun e w' ⟨he, hw⟩ => by subst he hw; exact ⟨by rw [hB], has_cells hB⟩
  · exact (l04Has_5 w).mono fun e w' ⟨he, hw⟩ => by subst he hw; exact ⟨by rw [hB], has_cells hB⟩
  · exact (l04Has_6 w).mono fun e w' ⟨he, hw⟩ => by subst he hw; exact ⟨by rw [hB], has_cells hB⟩
  · exact (l04Has_7 w).mono fun e w' ⟨he, hw⟩ => by subst he hw; exact ⟨by rw [hB], has_cells hB⟩
  · exact (l04Has_8 w).mono fun e w' ⟨he, hw⟩ => by subst he hw; exact ⟨by rw [hB], has_cells hB⟩
  · exact (l04Has_9 w).mono fun e w' ⟨he, hw⟩ => by subst he hw; exact ⟨by rw [hB], has_cells hB⟩
  · exact (l04Has_10 w).mono fun e w' ⟨he, hw⟩ => by subst he hw; exact ⟨by rw [hB], has_cells hB⟩
  · exact (l04Has_11 w).mono fun e w' ⟨he, hw⟩ => by subst he hw; exact ⟨by rw [hB], has_cells hB⟩
theorem l04Field_any (b : Bool) (n lo hi : Int) (W : World) : Calls Tryd.prog 51 #[.bool b, .int .i64 n, .int .i64 lo, .int .i64 hi] W fun e w' => e = .returned (.bool (fld b n lo hi)) ∧ W = w' := by
  obtain ⟨r, hr⟩ : ∃ r, fld b n lo hi = r := ⟨_, rfl⟩
  rw [hr]
  have HR := Lib.hid hr
  clear hr
  cases b
  · go_enter Tryd.func51, Tryd.ntmps51
    go_wp2
    go_ret
    exact ⟨ret_boolS (by rw [← HR.out]; simp [fld]), rfl⟩
  · by_cases h : lo ≤ n
    · go_enter Tryd.func51, Tryd.ntmps51
      go_wp2
      go_ret
      exact ⟨ret_boolS (by rw [← HR.out]; simp [fld, inB, h]), rfl⟩
    · go_enter Tryd.func51, Tryd.ntmps51
      go_wp2
      go_ret
      exact ⟨ret_boolS (by rw [← HR.out]; simp [fld, inB]; omega), rfl⟩
theorem l04Field_lit {b : Bool} {n lo hi : Int} {r : Bool} (h : fld b n lo hi = r) (W : World) : Calls Tryd.prog 51 #[.bool b, .int .i64 n, .int .i64 lo, .int .i64 hi] W fun e w' => e = .returned (.bool r) ∧ w' = W :=
  (l04Field_any b n lo hi W).mono fun e w' ⟨h1, h2⟩ => ⟨by rw [h1, h], h2.symm⟩
end Go.Proofs.YtnjdmmdbminmoaaDoor
