/- The draws of amounts: l01Raw, l01Amt, l01Two: integers of 64 bits (an amount), and only the cursor has moved on. -/
import Derived.Test.YtblenfhacaecmaaCur
namespace Go.Proofs.Ytblenfhacaecmaa
open Go.RowKit

def in64 (x : Int) : Prop := -9223372036854775808 ≤ x ∧ x ≤ 9223372036854775807
theorem in64_wrap (x : Int) : in64 (wrap64 x) := by unfold in64 wrap64; omega
theorem curPost_end {B g : Nat} {p : Int → Prop} {w : World} {x : Int} {w' : World} (hp : p x) (hc : Cur B w' g) (hg : w.grownBy w' (some g)) : CurPost B g p w (.returned (.int .i64 x)) w' := ⟨x, rfl, hp, hc, hg⟩

set_option maxHeartbeats 1000000 in
set_option maxRecDepth 100000 in
theorem l01Raw_any (B g : Nat) (w : World) (h : Cur B w g) : Calls Try.prog 81 #[.pointer (some ⟨g, 0, none⟩)] w (CurPost B g in64 w) := by
  go_enter Try.func81, Try.ntmps81
  go_wp2_with (go_at_call 80; refine (l01Below_any _ _ _ (by omega) _ (by assumption)).mono ?_; rintro e w1 ⟨x, rfl, ⟨hx0, hx1, hx2⟩, hc1, hg1⟩; have hx3 := hx1 (by omega); clear hx1 hx2)
  all_goals
    go_ret
  all_goals
    refine curPost_end ?_ (by assumption) ?_
    · first | exact in64_wrap _ | (unfold in64; omega)
    · repeat' (first | exact World.grownBy.refl _ _ | assumption | (refine grownBy_trans ?_ (by assumption)))
/-- Two integers of 64 bits. -/
def CurPost2 (B g : Nat) (w : World) (e : Ending) (w' : World) : Prop :=
  ∃ x y : Int, e = .returned (.tuple #[.int .i64 x, .int .i64 y]) ∧ in64 x ∧ in64 y ∧ Cur B w' g ∧ w.grownBy w' (some g)

end Go.Proofs.Ytblenfhacaecmaa
