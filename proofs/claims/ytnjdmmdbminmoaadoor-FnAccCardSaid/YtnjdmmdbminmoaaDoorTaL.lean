/- The walk of the law on TextAcc. -/
import Derived.Test.YtnjdmmdbminmoaaDoorTa
namespace Go.Proofs.YtnjdmmdbminmoaaDoor
open Go.RowKit
/-- What an answer says. -/
def accAns (l : List UInt8) (k c : Int) (b : Bool) : Prop := (b = true ∧ isAcc l k c) ∨ (b = false ∧ (∀ k c, ¬ isAcc l k c) ∧ k = 0 ∧ c = 0)
theorem RdAcc.get {l : List UInt8} {w w' : World} {e : Ending} (h : RdAcc l w e w') : ∃ k c b, Hid (accAns l k c b) ∧ e = .returned (.tuple #[.agg #[.int .i64 k, .int .i64 c], .bool b]) ∧ Below w.heap.size w w' := by
  obtain ⟨⟨k, c, h1, rfl⟩ | ⟨h1, rfl⟩, hb⟩ := h
  · exact ⟨k, c, true, Lib.hid (.inl ⟨rfl, h1⟩), rfl, hb⟩
  · exact ⟨0, 0, false, Lib.hid (.inr ⟨rfl, h1, rfl, rfl⟩), rfl, hb⟩
theorem accAns_one {l : List UInt8} {k c k' c' : Int} {b b' : Bool} (h : accAns l k c b) (h' : accAns l k' c' b') : k' = k ∧ c' = c ∧ b' = b := by
  rcases h with ⟨rfl, h1⟩ | ⟨rfl, h1, rfl, rfl⟩ <;> rcases h' with ⟨rfl, h2⟩ | ⟨rfl, h2, rfl, rfl⟩
  · have := isAcc_one h2 h1; exact ⟨this.1, this.2, rfl⟩
  · exact absurd h1 (h2 _ _)
  · exact absurd h2 (h1 _ _)
  · exact ⟨rfl, rfl, rfl⟩
theorem eqAcc_d (k c : Int) (w : World) : Calls Tryd.prog 37 #[.agg #[.int .i64 k, .int .i64 c], .agg #[.int .i64 k, .int .i64 c]] w fun e w' => e = .returned (.bool true) ∧ Below w.heap.size w w' := by
  have e0 : (k != k) = false := by simp
  have e1 : (c != c) = false := by simp
  go_enter Tryd.func37, Tryd.ntmps37
  go_wp2
  go_ret
  exact ⟨rfl, ((Below.refl _ _).alloc (Nat.le_refl _) _).alloc (by simp) _⟩
set_option maxRecDepth 100000 in
set_option maxHeartbeats 1000000 in
theorem walk_FnExactTextAcc (s : ByteArray) (_ws : s.size ≤ maxLen) (W : World) (hT : PTab W) (hE : PErr W) (hM : PMax W) :
    Calls Tryd.prog 11 #[.string s] W fun e w' => e = .returned (.bool true) ∧ Below W.heap.size W w' := by
  by_cases hsz : 1048576 < s.size
  · go_enter Tryd.func11, Tryd.ntmps11
    go_wp2
    go_ret
    exact ⟨rfl, Below.refl _ _⟩
  · have hs1 : ¬ (1048576 : Int) < (s.size : Int) := by omega
    go_enter Tryd.func11, Tryd.ntmps11
    go_wp2_with fail
    refine (spec_TextAcc s W).mono ?_
    rintro e w1 hp
    obtain ⟨k, c, b, H1, rfl, hb⟩ := hp.get
    clear hp
    have ebb : (b != b) = false := by simp
    have he1 : Eff 0 0 W w1 := Eff.of hb
    have hz1 : W.heap.size ≤ w1.heap.size := he1.size
    have b1 : Below W.heap.size W w1 := he1.below (Nat.le_refl _) (by omega)
    replace hT := hT.below he1.all
    replace hE := hE.below he1.all
    replace hM := hM.below he1.all
    clear hb
    go_wp2_with fail
    have he2 : Eff 0 0 w1 (w1.alloc (.cells #[.int .i64 k, .int .i64 c] 24)) := Eff.alloc _ _
    have hs2 : (w1.alloc (.cells #[.int .i64 k, .int .i64 c] 24)).heap.size = w1.heap.size + 1 := (by simp)
    have w0_0 : (w1.alloc (.cells #[.int .i64 k, .int .i64 c] 24)).cell? ⟨w1.heap.size, 0, none⟩ = some (.int .i64 k) := var_cell _ _ _ _ _ rfl
    have w0_1 : (w1.alloc (.cells #[.int .i64 k, .int .i64 c] 24)).cell? ⟨w1.heap.size, 1, none⟩ = some (.int .i64 c) := var_cell _ _ _ _ _ rfl
    generalize (w1.alloc (.cells #[.int .i64 k, .int .i64 c] 24)) = w2 at *
    have hz2 : w1.heap.size ≤ w2.heap.size := he2.size
    have b2 : Below W.heap.size W w2 := b1.trans (he2.below b1.size (by omega))
    replace hT := hT.below he2.all
    replace hE := hE.below he2.all
    replace hM := hM.below he2.all
    have w0_l : w1.heap.size < w2.heap.size := (by omega)
    refine (impl_TextAcc s (by omega) w2 hT hE hM).mono ?_
    rintro e w3 hp
    obtain ⟨k', c', b', H2, rfl, hb⟩ := hp.get
    clear hp
    obtain ⟨rfl, rfl, rfl⟩ := accAns_one H2.out H1.out
    have he3 : Eff 0 0 w2 w3 := Eff.of hb
    have hz3 : w2.heap.size ≤ w3.heap.size := he3.size
    have b3 : Below W.heap.size W w3 := b2.trans (he3.below b2.size (by omega))
    replace w0_0 := he3.cell w0_0 (by simp only; omega)
    replace w0_1 := he3.cell w0_1 (by simp only; omega)
    replace w0_l := Nat.lt_of_lt_of_le w0_l hz3
    replace hT := hT.below he3.all
    replace hE := hE.below he3.all
    replace hM := hM.below he3.all
    clear hb
    have w0_0P := (Eff.alloc w3 (.cells #[.int .i64 k, .int .i64 c] 24)).cell w0_0 (by simp only; omega)
    have w0_1P := (Eff.alloc w3 (.cells #[.int .i64 k, .int .i64 c] 24)).cell w0_1 (by simp only; omega)
    go_wp2_with fail
    have he4 : Eff 0 0 w3 (w3.alloc (.cells #[.int .i64 k, .int .i64 c] 24)) := Eff.alloc _ _
    have hs4 : (w3.alloc (.cells #[.int .i64 k, .int .i64 c] 24)).heap.size = w3.heap.size + 1 := (by simp)
    have g0_0 : (w3.alloc (.cells #[.int .i64 k, .int .i64 c] 24)).cell? ⟨w3.heap.size, 0, none⟩ = some (.int .i64 k) := var_cell _ _ _ _ _ rfl
    have g0_1 : (w3.alloc (.cells #[.int .i64 k, .int .i64 c] 24)).cell? ⟨w3.heap.size, 1, none⟩ = some (.int .i64 c) := var_cell _ _ _ _ _ rfl
    generalize (w3.alloc (.cells #[.int .i64 k, .int .i64 c] 24)) = w4 at *
    have hz4 : w3.heap.size ≤ w4.heap.size := he4.size
    have b4 : Below W.heap.size W w4 := b3.trans (he4.below b3.size (by omega))
    replace w0_0 := he4.cell w0_0 (by simp only; omega)
    replace w0_1 := he4.cell w0_1 (by simp only; omega)
    replace w0_l := Nat.lt_of_lt_of_le w0_l hz4
    replace hT := hT.below he4.all
    replace hE := hE.below he4.all
    replace hM := hM.below he4.all
    have g0_l : w3.heap.size < w4.heap.size := (by omega)
    clear w0_0P w0_1P
    refine (eqAcc_d k c w4).mono ?_
    rintro e w5 ⟨rfl, hb⟩
    have he5 : Eff 0 0 w4 w5 := Eff.of hb
    have hz5 : w4.heap.size ≤ w5.heap.size := he5.size
    have b5 : Below W.heap.size W w5 := b4.trans (he5.below b4.size (by omega))
    replace w0_0 := he5.cell w0_0 (by simp only; omega)
    replace w0_1 := he5.cell w0_1 (by simp only; omega)
    replace g0_0 := he5.cell g0_0 (by simp only; omega)
    replace g0_1 := he5.cell g0_1 (by simp only; omega)
    replace w0_l := Nat.lt_of_lt_of_le w0_l hz5
    replace g0_l := Nat.lt_of_lt_of_le g0_l hz5
    replace hT := hT.below he5.all
    replace hE := hE.below he5.all
    replace hM := hM.below he5.all
    clear hb
    go_wp2_with fail
    go_ret
    exact ⟨rfl, b5⟩
end Go.Proofs.YtnjdmmdbminmoaaDoor
