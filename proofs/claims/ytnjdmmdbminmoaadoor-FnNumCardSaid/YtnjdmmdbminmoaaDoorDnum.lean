/- The draw of PutNum's arguments. -/
import Derived.Test.YtnjdmmdbminmoaaDoorDraw3
import Derived.Test.YtnjdmmdbminmoaaDoorPut
import Derived.IntWalk
namespace Go.Proofs.YtnjdmmdbminmoaaDoor
open Go.RowKit
set_option maxHeartbeats 1000000 in
set_option maxRecDepth 100000 in
theorem DrawPutNum_any (W : World) (A : Option Addr) (n c : Nat) (l : List UInt8) (hr : Rd W W.heap.size 1 A n (Lib.byteCells l)) (hn : n ≤ 1048576) : Calls Tryd.prog 30 #[.slice A n c] W fun e w' =>
    ∃ A m c l z s, e = .returned (.tuple #[.slice A m c, .int .i64 z, .int .i64 s]) ∧ m ≤ 4 ∧ in64 z ∧ 1 ≤ s ∧ s ≤ 8 ∧ OwnB w' W.heap.size w'.heap.size A m c l ∧ Below W.heap.size W w' := by
  go_enter Tryd.func30, Tryd.ntmps30
  go_wp2_with fail
  refine (l01New_any W A n c l (hr.more (by omega)) hn).mono ?_
  rintro e w1 ⟨g, hgE, rfl, hc, hb⟩
  have hg1 : W.heap.size ≤ g := by omega
  have hg2 := hc.lt
  clear hgE
  have he1 : Eff 0 0 W w1 := Eff.of hb
  have hz1 : W.heap.size ≤ w1.heap.size := he1.size
  have b1 : Below W.heap.size W w1 := he1.below (Nat.le_refl _) (by omega)
  replace hr := (hr.below (he1.below (B := W.heap.size) (by omega) (by omega)) (Nat.le_refl _))
  clear hb
  go_wp2_with fail
  refine (l03Bytes_any W.heap.size g 4 (by omega) (by omega) w1 hc).mono ?_
  rintro e w2 ⟨Ay, ny, cy, ly, rfl, my, hc, y, he⟩
  have he2 : Eff (g) (g + 1) w1 w2 := he
  have hz2 : w1.heap.size ≤ w2.heap.size := he2.size
  have b2 : Below W.heap.size W w2 := b1.trans (he2.below b1.size (by omega))
  replace hr := (hr.below (he2.below (B := W.heap.size) (by omega) (by omega)) (Nat.le_refl _))
  clear he
  go_wp2_with fail
  refine (l01Raw_any W.heap.size g w2 hc).mono ?_
  rintro e w3 hpost
  obtain ⟨z, rfl, z_r, hc, he⟩ := hpost.eff
  clear hpost
  have he3 : Eff (g) (g + 1) w2 w3 := he
  have hz3 : w2.heap.size ≤ w3.heap.size := he3.size
  have b3 : Below W.heap.size W w3 := b2.trans (he3.below b2.size (by omega))
  replace hr := (hr.below (he3.below (B := W.heap.size) (by omega) (by omega)) (Nat.le_refl _))
  replace y := y.keep he3 (by omega)
  clear he
  go_wp2_with fail
  refine (l01Below_any W.heap.size g 8 (by omega) w3 hc).mono ?_
  rintro e w4 hpost
  obtain ⟨s, rfl, ⟨s_0, s_1, -⟩, hc, he⟩ := hpost.eff
  clear hpost
  replace s_1 := s_1 (by omega)
  have he4 : Eff (g) (g + 1) w3 w4 := he
  have hz4 : w3.heap.size ≤ w4.heap.size := he4.size
  have b4 : Below W.heap.size W w4 := b3.trans (he4.below b3.size (by omega))
  replace hr := (hr.below (he4.below (B := W.heap.size) (by omega) (by omega)) (Nat.le_refl _))
  replace y := y.keep he4 (by omega)
  clear he
  go_wp2_with fail
  refine (l01Below_any W.heap.size g 3 (by omega) w4 hc).mono ?_
  rintro e w5 hpost
  obtain ⟨q, rfl, ⟨q_0, q_1, -⟩, hc, he⟩ := hpost.eff
  clear hpost
  replace q_1 := q_1 (by omega)
  have he5 : Eff (g) (g + 1) w4 w5 := he
  have hz5 : w4.heap.size ≤ w5.heap.size := he5.size
  have b5 : Below W.heap.size W w5 := b4.trans (he5.below b4.size (by omega))
  replace hr := (hr.below (he5.below (B := W.heap.size) (by omega) (by omega)) (Nat.le_refl _))
  replace y := y.keep he5 (by omega)
  clear he
  by_cases hq : q = 0
  · skip
    subst hq
    go_wp2_with fail
    refine (l01Below_any W.heap.size g 7 (by omega) w5 hc).mono ?_
    rintro e w6 hpost
    obtain ⟨p, rfl, ⟨p_0, p_1, -⟩, hc, he⟩ := hpost.eff
    clear hpost
    replace p_1 := p_1 (by omega)
    have he6 : Eff (g) (g + 1) w5 w6 := he
    have hz6 : w5.heap.size ≤ w6.heap.size := he6.size
    have b6 : Below W.heap.size W w6 := b5.trans (he6.below b5.size (by omega))
    replace hr := (hr.below (he6.below (B := W.heap.size) (by omega) (by omega)) (Nat.le_refl _))
    replace y := y.keep he6 (by omega)
    clear he
    obtain ⟨P, rfl⟩ : ∃ P : Nat, p = (P : Int) := ⟨p.toNat, by omega⟩
    have hP7 : P + 1 ≤ 7 := by omega
    have hpw : 256 ^ (P + 1) ≤ 72057594037927936 := pow_le7 hP7
    obtain ⟨Q, hQ⟩ : ∃ Q, 256 ^ (P + 1) = Q := ⟨_, rfl⟩
    have hpow : ∀ w : World, Calls Tryd.prog 58 #[.int .i64 (1 + (P : Int))] w fun e w' => e = .returned (.int .i64 (Q : Int)) ∧ w = w' := fun w => by
      have h := l03Pow_any (P + 1) hP7 w
      rw [hQ, show ((P + 1 : Nat) : Int) = 1 + (P : Int) by omega] at h
      exact h
    have HPW := Lib.hid hpow
    rw [hQ] at hpw
    clear hpow hQ
    go_wp2_with fail
    refine (HPW.out w6).mono ?_
    rintro e wx ⟨rfl, hwx⟩
    rw [← hwx]
    clear hwx
    go_wp2_with fail
    refine (l01Below_any W.heap.size g 2 (by omega) w6 hc).mono ?_
    rintro e w7 hpost
    obtain ⟨r, rfl, ⟨r_0, r_1, -⟩, hc, he⟩ := hpost.eff
    clear hpost
    replace r_1 := r_1 (by omega)
    have he7 : Eff (g) (g + 1) w6 w7 := he
    have hz7 : w6.heap.size ≤ w7.heap.size := he7.size
    have b7 : Below W.heap.size W w7 := b6.trans (he7.below b6.size (by omega))
    replace hr := (hr.below (he7.below (B := W.heap.size) (by omega) (by omega)) (Nat.le_refl _))
    replace y := y.keep he7 (by omega)
    clear he
    have c1 : IntKind.i64.wrap ((Q : Int) - r) = (Q : Int) - r := IntWalk.i64_in _ (by omega)
    go_wp2_with fail
    refine bodyPost_ret (v := .tuple #[.slice Ay ny cy, .int .i64 ((Q : Int) - r), .int .i64 (1 + s)]) (by simp [results, Tryd.results30, go_sem]) rfl ?_
    exact ⟨Ay, ny, cy, ly, ((Q : Int) - r), 1 + s, rfl, by omega, by constructor <;> omega, by omega, by omega, Own.wide y (by omega) (by have := Own.le y; omega) (Nat.le_refl _), b7⟩
  · skip
    have n0 : (q == 0) = false := by simp; omega
    go_wp2_with fail
    refine bodyPost_ret (v := .tuple #[.slice Ay ny cy, .int .i64 z, .int .i64 (1 + s)]) (by simp [results, Tryd.results30, go_sem]) rfl ?_
    exact ⟨Ay, ny, cy, ly, z, 1 + s, rfl, by omega, z_r, by omega, by omega, Own.wide y (by omega) (by have := Own.le y; omega) (Nat.le_refl _), b5⟩
end Go.Proofs.YtnjdmmdbminmoaaDoor
