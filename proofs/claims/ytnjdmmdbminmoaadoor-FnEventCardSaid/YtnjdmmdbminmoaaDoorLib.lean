/- What the library's functions ask of a world: its tables and variables lie as start-up lays them; NumText (program, reference). -/
import Derived.Test.YtnjdmmdbminmoaaDoorSh
import Derived.Test.YtnjdmmdbminmoaaDoorNt
import Derived.Test.YtnjdmmdbminmoaaDoorAmt1
import Derived.Lib.AppendIntMem
import Derived.Lib.SmallJoins
namespace Go.Proofs.YtnjdmmdbminmoaaDoor
open Go.RowKit
def PTab (w : World) : Prop := Lib.TabIs Tryd.prog w "internal/strconv.uint64pow10" .u64 Lib.pow10Tab
theorem gTab : Tryd.prog.globalNamed "internal/strconv.uint64pow10" = some 3 := by kernel_rfl
theorem PTab.below {w w' : World} (h : PTab w) (hb : Below w.heap.size w w') : PTab w' := Joins.var_stays gTab h hb (Nat.le_refl _)
def PErr (w : World) : Prop := (∃ t p, w.cell? ⟨0, 0, none⟩ = some (.iface t p)) ∧ ∃ t p, w.cell? ⟨1, 0, none⟩ = some (.iface t p)
theorem PErr.below {w w' : World} (h : PErr w) (hb : Below w.heap.size w w') : PErr w' := by
  obtain ⟨⟨t, p, h1⟩, t', p', h2⟩ := h
  exact ⟨⟨t, p, (hb.cell (World.block_lt_of_cell? w _ h1)).trans h1⟩, t', p', (hb.cell (World.block_lt_of_cell? w _ h2)).trans h2⟩
def PMax (w : World) : Prop := ∃ m, w.cell? ⟨2, 0, none⟩ = some (.int .i64 m)
theorem PMax.below {w w' : World} (h : PMax w) (hb : Below w.heap.size w w') : PMax w' := by
  obtain ⟨m, h1⟩ := h
  exact ⟨m, (hb.cell (World.block_lt_of_cell? w _ h1)).trans h1⟩
theorem inB_inM (n : Int) : inB n (-1125899906842624) 1125899906842624 = inM n := by simp [inB, inM]
theorem bstr_nil : bstr [] = { data := #[] } := rfl
set_option maxRecDepth 100000 in
theorem impl_NumText (n : Int) (w : World) (hT : PTab w) : Calls Tryd.prog 25 #[.int .i64 n] w fun e w' => e = .returned (.string (bstr (nTx n))) ∧ Below w.heap.size w w' := by
  rcases h : inM n with _ | _
  · rw [nTx_out h, bstr_nil]
    go_enter Tryd.func25, Tryd.ntmps25
    go_wp2_with (go_at_call 52; refine (in_any n _ _ _).mono ?_; rintro e w1 ⟨rfl, rfl⟩; rw [inB_inM, h])
    go_ret
    exact ⟨rfl, Below.refl _ _⟩
  · have h0 := inM_iff.1 h
    have hi : -9223372036854775808 ≤ n ∧ n ≤ 9223372036854775807 := by omega
    rw [nTx_in h]
    clear h0
    go_enter Tryd.func25, Tryd.ntmps25
    go_wp2_with (first
      | (go_at_call 52; refine (in_any n _ _ _).mono ?_; rintro e w1 ⟨rfl, rfl⟩; rw [inB_inM, h])
      | (go_at_call 53; refine (Tryd.strconv_Itoa n hi.1 hi.2 _ hT).mono ?_; rintro e w1 ⟨rfl, k, os, rfl⟩))
    go_ret
    exact ⟨rfl, Lib.below_grow _ _ (Nat.le_refl _) _ _⟩
set_option maxRecDepth 100000 in
theorem spec_NumText (n : Int) (w : World) : Calls Tryd.prog 24 #[.int .i64 n] w fun e w' => e = .returned (.string (bstr (nTx n))) ∧ Below w.heap.size w w' := by
  rcases h : inM n with _ | _
  · rw [nTx_out h, bstr_nil]
    by_cases h1 : n < -1125899906842624
    · go_enter Tryd.func24, Tryd.ntmps24
      go_wp2
      go_ret
      exact ⟨rfl, Below.refl _ _⟩
    · have h2 : 1125899906842624 < n := by
        rcases Int.lt_or_le 1125899906842624 n with h3 | h3
        · exact h3
        · have := inM_iff.2 ⟨by omega, h3⟩; rw [h] at this; cases this
      go_enter Tryd.func24, Tryd.ntmps24
      go_wp2
      go_ret
      exact ⟨rfl, Below.refl _ _⟩
  · have h0 := inM_iff.1 h
    rw [nTx_in h]
    by_cases hn : n < 0
    · obtain ⟨a, ha⟩ : ∃ a : Nat, -n = (a : Int) := ⟨n.natAbs, by omega⟩
      have hit : Lib.itoa n = 45 :: Lib.decDigits a := by rw [Lib.itoa, if_pos hn, show n.natAbs = a by omega]
      have hneg : IntKind.i64.wrap (-n) = (a : Int) := (IntWalk.i64_in _ (by omega)).trans ha
      have haM : a ≤ 1125899906842624 := by omega
      have hsz : ¬ (9223372036854775807 < (ByteArray.mk #[45]).size + (bstr (Lib.decDigits a)).size) := by rw [bstr_size]; have := dec_len a; have e : (ByteArray.mk #[45]).size = 1 := rfl; omega
      rw [hit]
      have h1 : ¬ n < -1125899906842624 := by omega
      have h2 : ¬ 1125899906842624 < n := by omega
      clear h0 ha hit
      go_enter Tryd.func24, Tryd.ntmps24
      go_wp2_with (go_at_call 24; refine (spec_dec a haM _).mono ?_; rintro e w1 ⟨rfl, hb⟩)
      go_ret
      exact ⟨congrArg (fun s => Ending.returned (Value.string s)) (bstr_app [45] _), hb⟩
    · obtain ⟨a, rfl⟩ : ∃ a : Nat, n = (a : Int) := ⟨n.toNat, by omega⟩
      rw [Lib.itoa, if_neg hn, Int.toNat_natCast]
      exact spec_dec a (by omega) w
end Go.Proofs.YtnjdmmdbminmoaaDoor
