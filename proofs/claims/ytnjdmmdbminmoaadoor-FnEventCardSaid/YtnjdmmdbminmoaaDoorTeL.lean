/- The walk of the law on TextEvent. -/
import Derived.Test.YtnjdmmdbminmoaaDoorTe
import Derived.Test.YtnjdmmdbminmoaaDoorTes
import Derived.Test.YtnjdmmdbminmoaaDoorEvL
namespace Go.Proofs.YtnjdmmdbminmoaaDoor
open Go.RowKit
/-- What an answer says. -/
def evAns (l : List UInt8) (k key ch to amt fee : Int) (y : Bool) (b : Bool) : Prop := (b = true ∧ isEvt l k key ch to amt fee y) ∨ (b = false ∧ (∀ k key ch to amt fee y, ¬ isEvt l k key ch to amt fee y) ∧ k = 0 ∧ key = 0 ∧ ch = 0 ∧ to = 0 ∧ amt = 0 ∧ fee = 0 ∧ y = false)
theorem RdEvt.get {l : List UInt8} {w w' : World} {e : Ending} (h : RdEvt l w e w') : ∃ k key ch to amt fee y b, Hid (evAns l k key ch to amt fee y b) ∧ e = .returned (.tuple #[.agg #[.int .i64 k, .int .i64 key, .int .i64 ch, .int .i64 to, .int .i64 amt, .int .i64 fee, .bool y], .bool b]) ∧ Below w.heap.size w w' := by
  obtain ⟨⟨k, key, ch, to, amt, fee, y, h1, rfl⟩ | ⟨h1, rfl⟩, hb⟩ := h
  · exact ⟨k, key, ch, to, amt, fee, y, true, Lib.hid (.inl ⟨rfl, h1⟩), rfl, hb⟩
  · exact ⟨0, 0, 0, 0, 0, 0, false, false, Lib.hid (.inr ⟨rfl, h1, rfl, rfl, rfl, rfl, rfl, rfl, rfl⟩), rfl, hb⟩
theorem evAns_one {l : List UInt8} {k key ch to amt fee k' key' ch' to' amt' fee' : Int} {y y' b b' : Bool} (h : evAns l k key ch to amt fee y b) (h' : evAns l k' key' ch' to' amt' fee' y' b') : k' = k ∧ key' = key ∧ ch' = ch ∧ to' = to ∧ amt' = amt ∧ fee' = fee ∧ y' = y ∧ b' = b := by
  rcases h with ⟨rfl, h1⟩ | ⟨rfl, h1, rfl, rfl, rfl, rfl, rfl, rfl, rfl⟩ <;> rcases h' with ⟨rfl, h2⟩ | ⟨rfl, h2, rfl, rfl, rfl, rfl, rfl, rfl, rfl⟩
  · obtain ⟨a1, a2, a3, a4, a5, a6, a7⟩ := isEvt_one h1 h2
    exact ⟨a1, a2, a3, a4, a5, a6, a7, rfl⟩
  · exact absurd h1 (h2 _ _ _ _ _ _ _)
  · exact absurd h2 (h1 _ _ _ _ _ _ _)
  · exact ⟨rfl, rfl, rfl, rfl, rfl, rfl, rfl, rfl⟩
set_option maxRecDepth 100000 in
set_option maxHeartbeats 2000000 in
theorem walk_FnExactTextEvent (s : ByteArray) (_ws : s.size ≤ maxLen) (W : World) (hT : PTab W) (hE : PErr W) (hM : PMax W) :
    Calls Tryd.prog 4 #[.string s] W fun e w' => e = .returned (.bool true) ∧ Below W.heap.size W w' := by
  by_cases hsz : 1048576 < s.size
  · go_enter Tryd.func4, Tryd.ntmps4
    go_wp2
    go_ret
    exact ⟨rfl, Below.refl _ _⟩
  · have hs1 : ¬ (1048576 : Int) < (s.size : Int) := by omega
    go_enter Tryd.func4, Tryd.ntmps4
    go_wp2_with fail
    refine (spec_TextEvent s (by omega) W).mono ?_
    rintro e w1 hp
    obtain ⟨k, key, ch, to, amt, fee, y, b, H1, rfl, hb⟩ := hp.get
    clear hp
    have ebb : (b != b) = false := by simp
    have he1 : Eff 0 0 W w1 := Eff.of hb
    have hz1 : W.heap.size ≤ w1.heap.size := he1.size
    have b1 : Below W.heap.size W w1 := he1.below (Nat.le_refl _) (by omega)
    replace hT := hT.below he1.all
    replace hE := hE.below he1.all
    replace hM := hM.below he1.all
    clear hb
    go_wp2_with fail
    have he2 : Eff 0 0 w1 (w1.alloc (.cells #[.int .i64 k, .int .i64 key, .int .i64 ch, .int .i64 to, .int .i64 amt, .int .i64 fee, .bool y] 32)) := Eff.alloc _ _
    have hs2 : (w1.alloc (.cells #[.int .i64 k, .int .i64 key, .int .i64 ch, .int .i64 to, .int .i64 amt, .int .i64 fee, .bool y] 32)).heap.size = w1.heap.size + 1 := (by simp)
    have w0_0 : (w1.alloc (.cells #[.int .i64 k, .int .i64 key, .int .i64 ch, .int .i64 to, .int .i64 amt, .int .i64 fee, .bool y] 32)).cell? ⟨w1.heap.size, 0, none⟩ = some (.int .i64 k) := var_cell _ _ _ _ _ rfl
    have w0_1 : (w1.alloc (.cells #[.int .i64 k, .int .i64 key, .int .i64 ch, .int .i64 to, .int .i64 amt, .int .i64 fee, .bool y] 32)).cell? ⟨w1.heap.size, 1, none⟩ = some (.int .i64 key) := var_cell _ _ _ _ _ rfl
    have w0_2 : (w1.alloc (.cells #[.int .i64 k, .int .i64 key, .int .i64 ch, .int .i64 to, .int .i64 amt, .int .i64 fee, .bool y] 32)).cell? ⟨w1.heap.size, 2, none⟩ = some (.int .i64 ch) := var_cell _ _ _ _ _ rfl
    have w0_3 : (w1.alloc (.cells #[.int .i64 k, .int .i64 key, .int .i64 ch, .int .i64 to, .int .i64 amt, .int .i64 fee, .bool y] 32)).cell? ⟨w1.heap.size, 3, none⟩ = some (.int .i64 to) := var_cell _ _ _ _ _ rfl
    have w0_4 : (w1.alloc (.cells #[.int .i64 k, .int .i64 key, .int .i64 ch, .int .i64 to, .int .i64 amt, .int .i64 fee, .bool y] 32)).cell? ⟨w1.heap.size, 4, none⟩ = some (.int .i64 amt) := var_cell _ _ _ _ _ rfl
    have w0_5 : (w1.alloc (.cells #[.int .i64 k, .int .i64 key, .int .i64 ch, .int .i64 to, .int .i64 amt, .int .i64 fee, .bool y] 32)).cell? ⟨w1.heap.size, 5, none⟩ = some (.int .i64 fee) := var_cell _ _ _ _ _ rfl
    have w0_6 : (w1.alloc (.cells #[.int .i64 k, .int .i64 key, .int .i64 ch, .int .i64 to, .int .i64 amt, .int .i64 fee, .bool y] 32)).cell? ⟨w1.heap.size, 6, none⟩ = some (.bool y) := var_cell _ _ _ _ _ rfl
    generalize (w1.alloc (.cells #[.int .i64 k, .int .i64 key, .int .i64 ch, .int .i64 to, .int .i64 amt, .int .i64 fee, .bool y] 32)) = w2 at *
    have hz2 : w1.heap.size ≤ w2.heap.size := he2.size
    have b2 : Below W.heap.size W w2 := b1.trans (he2.below b1.size (by omega))
    replace hT := hT.below he2.all
    replace hE := hE.below he2.all
    replace hM := hM.below he2.all
    have w0_l : w1.heap.size < w2.heap.size := (by omega)
    refine (impl_TextEvent s (by omega) w2 hT hE hM).mono ?_
    rintro e w3 hp
    obtain ⟨k', key', ch', to', amt', fee', y', b', H2, rfl, hb⟩ := hp.get
    clear hp
    obtain ⟨rfl, rfl, rfl, rfl, rfl, rfl, rfl, rfl⟩ := evAns_one H2.out H1.out
    have he3 : Eff 0 0 w2 w3 := Eff.of hb
    have hz3 : w2.heap.size ≤ w3.heap.size := he3.size
    have b3 : Below W.heap.size W w3 := b2.trans (he3.below b2.size (by omega))
    replace w0_0 := he3.cell w0_0 (by simp only; omega)
    replace w0_1 := he3.cell w0_1 (by simp only; omega)
    replace w0_2 := he3.cell w0_2 (by simp only; omega)
    replace w0_3 := he3.cell w0_3 (by simp only; omega)
    replace w0_4 := he3.cell w0_4 (by simp only; omega)
    replace w0_5 := he3.cell w0_5 (by simp only; omega)
    replace w0_6 := he3.cell w0_6 (by simp only; omega)
    replace w0_l := Nat.lt_of_lt_of_le w0_l hz3
    replace hT := hT.below he3.all
    replace hE := hE.below he3.all
    replace hM := hM.below he3.all
    clear hb
    have w0_0P := (Eff.alloc w3 (.cells #[.int .i64 k, .int .i64 key, .int .i64 ch, .int .i64 to, .int .i64 amt, .int .i64 fee, .bool y] 32)).cell w0_0 (by simp only; omega)
    have w0_1P := (Eff.alloc w3 (.cells #[.int .i64 k, .int .i64 key, .int .i64 ch, .int .i64 to, .int .i64 amt, .int .i64 fee, .bool y] 32)).cell w0_1 (by simp only; omega)
    have w0_2P := (Eff.alloc w3 (.cells #[.int .i64 k, .int .i64 key, .int .i64 ch, .int .i64 to, .int .i64 amt, .int .i64 fee, .bool y] 32)).cell w0_2 (by simp only; omega)
    have w0_3P := (Eff.alloc w3 (.cells #[.int .i64 k, .int .i64 key, .int .i64 ch, .int .i64 to, .int .i64 amt, .int .i64 fee, .bool y] 32)).cell w0_3 (by simp only; omega)
    have w0_4P := (Eff.alloc w3 (.cells #[.int .i64 k, .int .i64 key, .int .i64 ch, .int .i64 to, .int .i64 amt, .int .i64 fee, .bool y] 32)).cell w0_4 (by simp only; omega)
    have w0_5P := (Eff.alloc w3 (.cells #[.int .i64 k, .int .i64 key, .int .i64 ch, .int .i64 to, .int .i64 amt, .int .i64 fee, .bool y] 32)).cell w0_5 (by simp only; omega)
    have w0_6P := (Eff.alloc w3 (.cells #[.int .i64 k, .int .i64 key, .int .i64 ch, .int .i64 to, .int .i64 amt, .int .i64 fee, .bool y] 32)).cell w0_6 (by simp only; omega)
    go_wp2_with fail
    have he4 : Eff 0 0 w3 (w3.alloc (.cells #[.int .i64 k, .int .i64 key, .int .i64 ch, .int .i64 to, .int .i64 amt, .int .i64 fee, .bool y] 32)) := Eff.alloc _ _
    have hs4 : (w3.alloc (.cells #[.int .i64 k, .int .i64 key, .int .i64 ch, .int .i64 to, .int .i64 amt, .int .i64 fee, .bool y] 32)).heap.size = w3.heap.size + 1 := (by simp)
    have g0_0 : (w3.alloc (.cells #[.int .i64 k, .int .i64 key, .int .i64 ch, .int .i64 to, .int .i64 amt, .int .i64 fee, .bool y] 32)).cell? ⟨w3.heap.size, 0, none⟩ = some (.int .i64 k) := var_cell _ _ _ _ _ rfl
    have g0_1 : (w3.alloc (.cells #[.int .i64 k, .int .i64 key, .int .i64 ch, .int .i64 to, .int .i64 amt, .int .i64 fee, .bool y] 32)).cell? ⟨w3.heap.size, 1, none⟩ = some (.int .i64 key) := var_cell _ _ _ _ _ rfl
    have g0_2 : (w3.alloc (.cells #[.int .i64 k, .int .i64 key, .int .i64 ch, .int .i64 to, .int .i64 amt, .int .i64 fee, .bool y] 32)).cell? ⟨w3.heap.size, 2, none⟩ = some (.int .i64 ch) := var_cell _ _ _ _ _ rfl
    have g0_3 : (w3.alloc (.cells #[.int .i64 k, .int .i64 key, .int .i64 ch, .int .i64 to, .int .i64 amt, .int .i64 fee, .bool y] 32)).cell? ⟨w3.heap.size, 3, none⟩ = some (.int .i64 to) := var_cell _ _ _ _ _ rfl
    have g0_4 : (w3.alloc (.cells #[.int .i64 k, .int .i64 key, .int .i64 ch, .int .i64 to, .int .i64 amt, .int .i64 fee, .bool y] 32)).cell? ⟨w3.heap.size, 4, none⟩ = some (.int .i64 amt) := var_cell _ _ _ _ _ rfl
    have g0_5 : (w3.alloc (.cells #[.int .i64 k, .int .i64 key, .int .i64 ch, .int .i64 to, .int .i64 amt, .int .i64 fee, .bool y] 32)).cell? ⟨w3.heap.size, 5, none⟩ = some (.int .i64 fee) := var_cell _ _ _ _ _ rfl
    have g0_6 : (w3.alloc (.cells #[.int .i64 k, .int .i64 key, .int .i64 ch, .int .i64 to, .int .i64 amt, .int .i64 fee, .bool y] 32)).cell? ⟨w3.heap.size, 6, none⟩ = some (.bool y) := var_cell _ _ _ _ _ rfl
    generalize (w3.alloc (.cells #[.int .i64 k, .int .i64 key, .int .i64 ch, .int .i64 to, .int .i64 amt, .int .i64 fee, .bool y] 32)) = w4 at *
    have hz4 : w3.heap.size ≤ w4.heap.size := he4.size
    have b4 : Below W.heap.size W w4 := b3.trans (he4.below b3.size (by omega))
    replace w0_0 := he4.cell w0_0 (by simp only; omega)
    replace w0_1 := he4.cell w0_1 (by simp only; omega)
    replace w0_2 := he4.cell w0_2 (by simp only; omega)
    replace w0_3 := he4.cell w0_3 (by simp only; omega)
    replace w0_4 := he4.cell w0_4 (by simp only; omega)
    replace w0_5 := he4.cell w0_5 (by simp only; omega)
    replace w0_6 := he4.cell w0_6 (by simp only; omega)
    replace w0_l := Nat.lt_of_lt_of_le w0_l hz4
    replace hT := hT.below he4.all
    replace hE := hE.below he4.all
    replace hM := hM.below he4.all
    have g0_l : w3.heap.size < w4.heap.size := (by omega)
    clear w0_0P w0_1P w0_2P w0_3P w0_4P w0_5P w0_6P
    refine (eqEvent_same k key ch to amt fee y w4).mono ?_
    rintro e w5 ⟨rfl, hb⟩
    have he5 : Eff 0 0 w4 w5 := Eff.of hb
    have hz5 : w4.heap.size ≤ w5.heap.size := he5.size
    have b5 : Below W.heap.size W w5 := b4.trans (he5.below b4.size (by omega))
    replace w0_0 := he5.cell w0_0 (by simp only; omega)
    replace w0_1 := he5.cell w0_1 (by simp only; omega)
    replace w0_2 := he5.cell w0_2 (by simp only; omega)
    replace w0_3 := he5.cell w0_3 (by simp only; omega)
    replace w0_4 := he5.cell w0_4 (by simp only; omega)
    replace w0_5 := he5.cell w0_5 (by simp only; omega)
    replace w0_6 := he5.cell w0_6 (by simp only; omega)
    replace g0_0 := he5.cell g0_0 (by simp only; omega)
    replace g0_1 := he5.cell g0_1 (by simp only; omega)
    replace g0_2 := he5.cell g0_2 (by simp only; omega)
    replace g0_3 := he5.cell g0_3 (by simp only; omega)
    replace g0_4 := he5.cell g0_4 (by simp only; omega)
    replace g0_5 := he5.cell g0_5 (by simp only; omega)
    replace g0_6 := he5.cell g0_6 (by simp only; omega)
    replace w0_l := Nat.lt_of_lt_of_le w0_l hz5
    replace g0_l := Nat.lt_of_lt_of_le g0_l hz5
    replace hT := hT.below he5.all
    replace hE := hE.below he5.all
    replace hM := hM.below he5.all
    clear hb
    go_wp2_with fail
    go_ret
    exact ⟨rfl, b5⟩
end Go.Proofs.YtnjdmmdbminmoaaDoor
