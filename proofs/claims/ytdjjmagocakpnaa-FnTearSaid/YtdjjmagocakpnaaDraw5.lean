/- The draw of a sector. -/
import Derived.Test.YtdjjmagocakpnaaDraw4
namespace Go.Proofs.Ytdjjmagocakpnaa
open Go.RowKit
def DrawSec (w : World) (e : Ending) (w' : World) : Prop :=
  ∃ (q o : Int) (A : Option Addr) (n c : Nat) (l : List UInt8), e = .returned (.agg #[.int .i64 q, .int .i64 o, .slice A n c]) ∧ (in64 q ∧ in64 o ∧ n ≤ 101) ∧ OwnB w' w.heap.size w'.heap.size A n c l ∧ Below w.heap.size w w'
set_option maxHeartbeats 1000000 in
set_option maxRecDepth 100000 in
theorem DrawSectorBytes_any (W : World) (A : Option Addr) (n c : Nat) (l : List UInt8) (hr : Rd W W.heap.size 1 A n (Lib.byteCells l)) (hn : n ≤ 1048576) : Calls Try.prog 41 #[.slice A n c] W (DrawSec W) := by
  go_enter Try.func41, Try.ntmps41
  go_wp2_with fail
  have he1 : Eff 0 0 W (W.alloc (.cells #[.int .i64 0, .int .i64 0, .slice none 0 0] 32)) := Eff.alloc _ _
  have hs1 : (W.alloc (.cells #[.int .i64 0, .int .i64 0, .slice none 0 0] 32)).heap.size = W.heap.size + 1 := (by simp)
  have res_0 : (W.alloc (.cells #[.int .i64 0, .int .i64 0, .slice none 0 0] 32)).cell? ⟨W.heap.size, 0, none⟩ = some (.int .i64 0) := var_cell _ _ _ _ _ rfl
  have res_1 : (W.alloc (.cells #[.int .i64 0, .int .i64 0, .slice none 0 0] 32)).cell? ⟨W.heap.size, 1, none⟩ = some (.int .i64 0) := var_cell _ _ _ _ _ rfl
  have res_2 : (W.alloc (.cells #[.int .i64 0, .int .i64 0, .slice none 0 0] 32)).cell? ⟨W.heap.size, 2, none⟩ = some (.slice none 0 0) := var_cell _ _ _ _ _ rfl
  have res_f0 : (W.alloc (.cells #[.int .i64 0, .int .i64 0, .slice none 0 0] 32)).frozen? ⟨W.heap.size, 0, none⟩ = false := var_frozen _ _ _ _
  have res_f1 : (W.alloc (.cells #[.int .i64 0, .int .i64 0, .slice none 0 0] 32)).frozen? ⟨W.heap.size, 1, none⟩ = false := var_frozen _ _ _ _
  have res_f2 : (W.alloc (.cells #[.int .i64 0, .int .i64 0, .slice none 0 0] 32)).frozen? ⟨W.heap.size, 2, none⟩ = false := var_frozen _ _ _ _
  generalize (W.alloc (.cells #[.int .i64 0, .int .i64 0, .slice none 0 0] 32)) = w1 at *
  have hz1 : W.heap.size ≤ w1.heap.size := he1.size
  have b1 : Below W.heap.size W w1 := he1.below (Nat.le_refl _) (by omega)
  replace hr := (hr.below (he1.below (B := W.heap.size) (by omega) (by omega)) (Nat.le_refl _))
  have res_l : W.heap.size < w1.heap.size := (by omega)
  refine (l01New_any w1 A n c l (hr.more (by omega)) hn).mono ?_
  rintro e w2 ⟨g, hgE, rfl, hc, hb⟩
  have hg1 : w1.heap.size ≤ g := by omega
  have hg2 := hc.lt
  clear hgE
  have he2 : Eff 0 0 w1 w2 := Eff.of hb
  have hz2 : w1.heap.size ≤ w2.heap.size := he2.size
  have b2 : Below W.heap.size W w2 := b1.trans (he2.below b1.size (by omega))
  replace hr := (hr.below (he2.below (B := W.heap.size) (by omega) (by omega)) (Nat.le_refl _))
  replace res_f0 := (he2.frozen res_0 (by simp only; omega)).trans res_f0
  replace res_f1 := (he2.frozen res_1 (by simp only; omega)).trans res_f1
  replace res_f2 := (he2.frozen res_2 (by simp only; omega)).trans res_f2
  replace res_0 := he2.cell res_0 (by simp only; omega)
  replace res_1 := he2.cell res_1 (by simp only; omega)
  replace res_2 := he2.cell res_2 (by simp only; omega)
  replace res_l := Nat.lt_of_lt_of_le res_l hz2
  clear hb
  go_wp2_with fail
  refine (l03Any_any w1.heap.size g w2 hc).mono ?_
  rintro e w3 hpost
  obtain ⟨q, o, Ay, ny, cy, ly, rfl, hp, -, y, he⟩ := hpost
  have he3 : Eff (g) (g + 1) w2 w3 := he
  have hz3 : w2.heap.size ≤ w3.heap.size := he3.size
  have b3 : Below W.heap.size W w3 := b2.trans (he3.below b2.size (by omega))
  replace hr := (hr.below (he3.below (B := W.heap.size) (by omega) (by omega)) (Nat.le_refl _))
  replace res_f0 := (he3.frozen res_0 (by simp only; omega)).trans res_f0
  replace res_f1 := (he3.frozen res_1 (by simp only; omega)).trans res_f1
  replace res_f2 := (he3.frozen res_2 (by simp only; omega)).trans res_f2
  replace res_0 := he3.cell res_0 (by simp only; omega)
  replace res_1 := he3.cell res_1 (by simp only; omega)
  replace res_2 := he3.cell res_2 (by simp only; omega)
  replace res_l := Nat.lt_of_lt_of_le res_l hz3
  clear he
  go_wp2
  refine bodyPost_ret (v := .agg #[.int .i64 q, .int .i64 o, .slice Ay ny cy]) (by simp [results, Try.results41, go_sem, *]) rfl ?_
  exact ⟨q, o, Ay, ny, cy, ly, rfl, hp, y.made ((eff_set3 _ _ _ _ _).new _) (by omega) (by omega), b3.trans (((eff_set3 _ _ _ _ _).new _).below (by omega) (by omega))⟩
end Go.Proofs.Ytdjjmagocakpnaa
