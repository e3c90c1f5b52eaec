/- The walk of the law on EventText. -/
import Derived.Test.YtnjdmmdbminmoaaDoorEts
import Derived.Test.YtnjdmmdbminmoaaDoorEvL
namespace Go.Proofs.YtnjdmmdbminmoaaDoor
open Go.RowKit
set_option maxRecDepth 100000 in
set_option maxHeartbeats 1000000 in
theorem walk_FnExactEventText (k key ch to amt fee : Int) (y : Bool) (_w0 : (Lit.int .i64 k).wf = true) (_w1 : (Lit.int .i64 key).wf = true) (_w2 : (Lit.int .i64 ch).wf = true) (_w3 : (Lit.int .i64 to).wf = true) (_w4 : (Lit.int .i64 amt).wf = true) (_w5 : (Lit.int .i64 fee).wf = true) (W : World) (hT : PTab W) (hM : PMax W) :
    Calls Tryd.prog 10 #[.agg #[.int .i64 k, .int .i64 key, .int .i64 ch, .int .i64 to, .int .i64 amt, .int .i64 fee, .bool y]] W fun e w' => e = .returned (.bool true) ∧ Below W.heap.size W w' := by
  obtain ⟨l, hl⟩ : ∃ l, evT k key ch to amt fee y = l := ⟨_, rfl⟩
  have hs : ∀ w, Calls Tryd.prog 34 #[.agg #[.int .i64 k, .int .i64 key, .int .i64 ch, .int .i64 to, .int .i64 amt, .int .i64 fee, .bool y]] w fun e w' => e = .returned (.string (bstr l)) ∧ Below w.heap.size w w' := fun w => hl ▸ spec_EventText k key ch to amt fee y w
  have hi : ∀ w, PTab w → PMax w → Calls Tryd.prog 21 #[.agg #[.int .i64 k, .int .i64 key, .int .i64 ch, .int .i64 to, .int .i64 amt, .int .i64 fee, .bool y]] w fun e w' => e = .returned (.string (bstr l)) ∧ Below w.heap.size w w' := fun w h h' => hl ▸ impl_EventText k key ch to amt fee y w h h'
  have HS := Lib.hid hs
  have HI := Lib.hid hi
  have hne := bstr_eq l
  clear hs hi hl
  go_enter Tryd.func10, Tryd.ntmps10
  go_wp2_with fail
  have he1 : Eff 0 0 W (W.alloc (.cells #[.int .i64 k, .int .i64 key, .int .i64 ch, .int .i64 to, .int .i64 amt, .int .i64 fee, .bool y] 54)) := Eff.alloc _ _
  have hs1 : (W.alloc (.cells #[.int .i64 k, .int .i64 key, .int .i64 ch, .int .i64 to, .int .i64 amt, .int .i64 fee, .bool y] 54)).heap.size = W.heap.size + 1 := (by simp)
  have e_0 : (W.alloc (.cells #[.int .i64 k, .int .i64 key, .int .i64 ch, .int .i64 to, .int .i64 amt, .int .i64 fee, .bool y] 54)).cell? ⟨W.heap.size, 0, none⟩ = some (.int .i64 k) := var_cell _ _ _ _ _ rfl
  have e_1 : (W.alloc (.cells #[.int .i64 k, .int .i64 key, .int .i64 ch, .int .i64 to, .int .i64 amt, .int .i64 fee, .bool y] 54)).cell? ⟨W.heap.size, 1, none⟩ = some (.int .i64 key) := var_cell _ _ _ _ _ rfl
  have e_2 : (W.alloc (.cells #[.int .i64 k, .int .i64 key, .int .i64 ch, .int .i64 to, .int .i64 amt, .int .i64 fee, .bool y] 54)).cell? ⟨W.heap.size, 2, none⟩ = some (.int .i64 ch) := var_cell _ _ _ _ _ rfl
  have e_3 : (W.alloc (.cells #[.int .i64 k, .int .i64 key, .int .i64 ch, .int .i64 to, .int .i64 amt, .int .i64 fee, .bool y] 54)).cell? ⟨W.heap.size, 3, none⟩ = some (.int .i64 to) := var_cell _ _ _ _ _ rfl
  have e_4 : (W.alloc (.cells #[.int .i64 k, .int .i64 key, .int .i64 ch, .int .i64 to, .int .i64 amt, .int .i64 fee, .bool y] 54)).cell? ⟨W.heap.size, 4, none⟩ = some (.int .i64 amt) := var_cell _ _ _ _ _ rfl
  have e_5 : (W.alloc (.cells #[.int .i64 k, .int .i64 key, .int .i64 ch, .int .i64 to, .int .i64 amt, .int .i64 fee, .bool y] 54)).cell? ⟨W.heap.size, 5, none⟩ = some (.int .i64 fee) := var_cell _ _ _ _ _ rfl
  have e_6 : (W.alloc (.cells #[.int .i64 k, .int .i64 key, .int .i64 ch, .int .i64 to, .int .i64 amt, .int .i64 fee, .bool y] 54)).cell? ⟨W.heap.size, 6, none⟩ = some (.bool y) := var_cell _ _ _ _ _ rfl
  generalize (W.alloc (.cells #[.int .i64 k, .int .i64 key, .int .i64 ch, .int .i64 to, .int .i64 amt, .int .i64 fee, .bool y] 54)) = w1 at *
  have hz1 : W.heap.size ≤ w1.heap.size := he1.size
  have b1 : Below W.heap.size W w1 := he1.below (Nat.le_refl _) (by omega)
  replace hT := hT.below he1.all
  replace hM := hM.below he1.all
  have e_l : W.heap.size < w1.heap.size := (by omega)
  refine (toEvent_any k key ch to amt fee y w1).mono ?_
  rintro e w2 ⟨rfl, hb⟩
  have he2 : Eff 0 0 w1 w2 := Eff.of hb
  have hz2 : w1.heap.size ≤ w2.heap.size := he2.size
  have b2 : Below W.heap.size W w2 := b1.trans (he2.below b1.size (by omega))
  replace e_0 := he2.cell e_0 (by simp only; omega)
  replace e_1 := he2.cell e_1 (by simp only; omega)
  replace e_2 := he2.cell e_2 (by simp only; omega)
  replace e_3 := he2.cell e_3 (by simp only; omega)
  replace e_4 := he2.cell e_4 (by simp only; omega)
  replace e_5 := he2.cell e_5 (by simp only; omega)
  replace e_6 := he2.cell e_6 (by simp only; omega)
  replace e_l := Nat.lt_of_lt_of_le e_l hz2
  replace hT := hT.below he2.all
  replace hM := hM.below he2.all
  clear hb
  go_wp2_with fail
  refine (HS.out w2).mono ?_
  rintro e w3 ⟨rfl, hb⟩
  have he3 : Eff 0 0 w2 w3 := Eff.of hb
  have hz3 : w2.heap.size ≤ w3.heap.size := he3.size
  have b3 : Below W.heap.size W w3 := b2.trans (he3.below b2.size (by omega))
  replace e_0 := he3.cell e_0 (by simp only; omega)
  replace e_1 := he3.cell e_1 (by simp only; omega)
  replace e_2 := he3.cell e_2 (by simp only; omega)
  replace e_3 := he3.cell e_3 (by simp only; omega)
  replace e_4 := he3.cell e_4 (by simp only; omega)
  replace e_5 := he3.cell e_5 (by simp only; omega)
  replace e_6 := he3.cell e_6 (by simp only; omega)
  replace e_l := Nat.lt_of_lt_of_le e_l hz3
  replace hT := hT.below he3.all
  replace hM := hM.below he3.all
  clear hb
  go_wp2_with fail
  refine (toEvent_any k key ch to amt fee y w3).mono ?_
  rintro e w4 ⟨rfl, hb⟩
  have he4 : Eff 0 0 w3 w4 := Eff.of hb
  have hz4 : w3.heap.size ≤ w4.heap.size := he4.size
  have b4 : Below W.heap.size W w4 := b3.trans (he4.below b3.size (by omega))
  replace e_0 := he4.cell e_0 (by simp only; omega)
  replace e_1 := he4.cell e_1 (by simp only; omega)
  replace e_2 := he4.cell e_2 (by simp only; omega)
  replace e_3 := he4.cell e_3 (by simp only; omega)
  replace e_4 := he4.cell e_4 (by simp only; omega)
  replace e_5 := he4.cell e_5 (by simp only; omega)
  replace e_6 := he4.cell e_6 (by simp only; omega)
  replace e_l := Nat.lt_of_lt_of_le e_l hz4
  replace hT := hT.below he4.all
  replace hM := hM.below he4.all
  clear hb
  go_wp2_with fail
  refine (HI.out w4 hT hM).mono ?_
  rintro e w5 ⟨rfl, hb⟩
  have he5 : Eff 0 0 w4 w5 := Eff.of hb
  have hz5 : w4.heap.size ≤ w5.heap.size := he5.size
  have b5 : Below W.heap.size W w5 := b4.trans (he5.below b4.size (by omega))
  replace e_0 := he5.cell e_0 (by simp only; omega)
  replace e_1 := he5.cell e_1 (by simp only; omega)
  replace e_2 := he5.cell e_2 (by simp only; omega)
  replace e_3 := he5.cell e_3 (by simp only; omega)
  replace e_4 := he5.cell e_4 (by simp only; omega)
  replace e_5 := he5.cell e_5 (by simp only; omega)
  replace e_6 := he5.cell e_6 (by simp only; omega)
  replace e_l := Nat.lt_of_lt_of_le e_l hz5
  replace hT := hT.below he5.all
  replace hM := hM.below he5.all
  clear hb
  go_wp2_with fail
  go_ret
  exact ⟨rfl, b5⟩
end Go.Proofs.YtnjdmmdbminmoaaDoor
