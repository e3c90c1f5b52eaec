/- The walk of the law on TextNum. -/
import Derived.Test.YtnjdmmdbminmoaaDoorTn
namespace Go.Proofs.YtnjdmmdbminmoaaDoor
open Go.RowKit
theorem walk_FnExactTextNum (s : ByteArray) (_ws : s.size ≤ maxLen) (W : World) (hT : PTab W) (hE : PErr W) :
    Calls Tryd.prog 8 #[.string s] W fun e w' => e = .returned (.bool true) ∧ Below W.heap.size W w' := by
  by_cases hsz : 1048576 < s.size
  · go_enter Tryd.func8, Tryd.ntmps8
    go_wp2
    go_ret
    exact ⟨rfl, Below.refl _ _⟩
  · obtain ⟨z, hz⟩ : ∃ z : Int, (tNum s.data.toList).getD 0 = z := ⟨_, rfl⟩
    obtain ⟨b, hb⟩ : ∃ b, (tNum s.data.toList).isSome = b := ⟨_, rfl⟩
    have HS := Lib.hid (fun w => (spec_TextNum s (by omega) w : Calls _ _ _ w (RdNum s.data.toList w)))
    have HI := Lib.hid (fun w h1 h2 => (impl_TextNum s (by omega) w h1 h2 : Calls _ _ _ w (RdNum s.data.toList w)))
    unfold RdNum at HS HI
    rw [hz, hb] at HS HI
    have e1 : (z != z) = false := by simp
    have e2 : (b != b) = false := by simp
    clear hz hb
    go_enter Tryd.func8, Tryd.ntmps8
    go_wp2_with fail
    refine (HS.out W).mono ?_
    rintro e w1 ⟨rfl, hb1⟩
    replace hT := hT.below hb1
    replace hE := hE.below hb1
    go_wp2_with fail
    refine (HI.out w1 hT hE).mono ?_
    rintro e w2 ⟨rfl, hb2⟩
    go_wp2_with fail
    go_ret
    exact ⟨rfl, hb1.trans (hb2.mono hb1.size)⟩
end Go.Proofs.YtnjdmmdbminmoaaDoor
