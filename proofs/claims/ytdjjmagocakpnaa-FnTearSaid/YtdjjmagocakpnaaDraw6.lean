/- The draw of two sectors of one place. -/
import Derived.Test.YtdjjmagocakpnaaDraw5
import Derived.Deep.RegionHeld3
import Derived.Deep.RegionHeld2
import Derived.IntWalk
import Derived.Deep.RegionWith
import Derived.Deep.DeepCutAuto
import Derived.RegionTactic
import Derived.ChangeAlike
namespace Go.Proofs.Ytdjjmagocakpnaa
open Go.RowKit
/-- A drawn element of a row of numbers. -/
theorem own_pick {e : TypeId} {w : World} {lo hi g n : Nat} {xs : List Value} {x : Int} {P : Int → Prop} (h : Own e 1 w lo hi (some ⟨g, 0, none⟩) n n xs) (h0 : 0 ≤ x) (h1 : x < (n : Int)) (hP : ∀ u ∈ xs, ∃ d : Int, u = .int .i64 d ∧ P d) :
    ∃ d : Int, P d ∧ w.cell? ⟨g, x.toNat, none⟩ = some (.int .i64 d) := by
  have hl := h.len
  have hx : x.toNat < xs.length := by omega
  obtain ⟨d, hd, hp⟩ := hP _ (List.getElem_mem hx)
  refine ⟨d, hp, ?_⟩
  rw [h.row.cellAt x.toNat (by omega), List.getElem?_eq_getElem hx, hd]
theorem eff_set6 (w : World) (b : Nat) (u0 u1 u2 v0 v1 v2 : Value) : Eff b (b + 2) w ((((((w.setCell ⟨b, 0, none⟩ u0).setCell ⟨b, 1, none⟩ u1).setCell ⟨b, 2, none⟩ u2).setCell ⟨b + 1, 0, none⟩ v0).setCell ⟨b + 1, 1, none⟩ v1).setCell ⟨b + 1, 2, none⟩ v2) :=
  ((eff_set3 w b u0 u1 u2).wide (Nat.le_refl _) (by omega)).trans ((eff_set3 _ (b + 1) v0 v1 v2).wide (by omega) (Nat.le_refl _))
/-- Two sectors of one place whose epochs differ, and how many bytes of the second came. -/
def MakeSec (w : World) (e : Ending) (w' : World) : Prop :=
  ∃ (q o p k : Int) (A : Option Addr) (n c : Nat) (l : List UInt8) (A' : Option Addr) (n' c' : Nat) (l' : List UInt8), e = .returned (.tuple #[.agg #[.int .i64 q, .int .i64 o, .slice A n c], .agg #[.int .i64 q, .int .i64 p, .slice A' n' c'], .int .i64 k]) ∧
    (0 ≤ q ∧ q ≤ 599 ∧ 1 ≤ o ∧ o ≤ 16000000 ∧ n ≤ 100 ∧ 1 ≤ p ∧ p ≤ 16000000 ∧ n' ≤ 100 ∧ o ≠ p ∧ 0 ≤ k ∧ k ≤ 128) ∧ OwnB w' w.heap.size w'.heap.size A n c l ∧ OwnB w' w.heap.size w'.heap.size A' n' c' l' ∧ Below w.heap.size w w'
theorem MakeSec.mk {b lo hi lo' hi' n c n' c' : Nat} {w w1 w2 : World} {q o p k : Int} {A A' : Option Addr} {l l' : List UInt8} (hp : 0 ≤ q ∧ q ≤ 599 ∧ 1 ≤ o ∧ o ≤ 16000000 ∧ n ≤ 100 ∧ 1 ≤ p ∧ p ≤ 16000000 ∧ n' ≤ 100 ∧ o ≠ p ∧ 0 ≤ k ∧ k ≤ 128)
    (B : Below w.heap.size w w1) (ho : OwnB w1 lo hi A n c l) (ho' : OwnB w1 lo' hi' A' n' c' l') (he : Eff b (b + 2) w1 w2) (h1 : w.heap.size ≤ b) (h2 : b + 2 ≤ lo) (h3 : b + 2 ≤ lo') :
    MakeSec w (.returned (.tuple #[.agg #[.int .i64 q, .int .i64 o, .slice A n c], .agg #[.int .i64 q, .int .i64 p, .slice A' n' c'], .int .i64 k])) w2 :=
  ⟨q, o, p, k, A, n, c, l, A', n', c', l', rfl, hp, ho.made he (by omega) (by omega), ho'.made he (by omega) (by omega), B.trans (he.below B.size (by omega))⟩
/-- What the statement on the second epoch leaves. -/
def MidTear (B g : Nat) (w : World) (b : Nat) (o : Int) (wx : World) : Prop :=
  ∃ (d : Int) (wy : World), 1 ≤ d ∧ d ≤ 65536 ∧ Cur B wy g ∧ Eff g (g + 1) w wy ∧ Eff 0 0 (wy.setCell ⟨b, 1, none⟩ (.int .i64 (o + d))) wx
set_option maxHeartbeats 1000000 in
set_option maxRecDepth 100000 in
theorem MakeSectors_any (W : World) (A : Option Addr) (n c : Nat) (l : List UInt8) (hr : Rd W W.heap.size 1 A n (Lib.byteCells l)) (hn : n ≤ 1048576) : Calls Try.prog 31 #[.slice A n c] W (MakeSec W) := by
  go_enter Try.func31, Try.ntmps31
  go_wp2_with fail
  have he1 : Eff 0 0 W (W.alloc (.cells #[.int .i64 0, .int .i64 0, .slice none 0 0] 32)) := Eff.alloc _ _
  have hs1 : (W.alloc (.cells #[.int .i64 0, .int .i64 0, .slice none 0 0] 32)).heap.size = W.heap.size + 1 := (by simp)
  have ra_0 : (W.alloc (.cells #[.int .i64 0, .int .i64 0, .slice none 0 0] 32)).cell? ⟨W.heap.size, 0, none⟩ = some (.int .i64 0) := var_cell _ _ _ _ _ rfl
  have ra_1 : (W.alloc (.cells #[.int .i64 0, .int .i64 0, .slice none 0 0] 32)).cell? ⟨W.heap.size, 1, none⟩ = some (.int .i64 0) := var_cell _ _ _ _ _ rfl
  have ra_2 : (W.alloc (.cells #[.int .i64 0, .int .i64 0, .slice none 0 0] 32)).cell? ⟨W.heap.size, 2, none⟩ = some (.slice none 0 0) := var_cell _ _ _ _ _ rfl
  have ra_f0 : (W.alloc (.cells #[.int .i64 0, .int .i64 0, .slice none 0 0] 32)).frozen? ⟨W.heap.size, 0, none⟩ = false := var_frozen _ _ _ _
  have ra_f1 : (W.alloc (.cells #[.int .i64 0, .int .i64 0, .slice none 0 0] 32)).frozen? ⟨W.heap.size, 1, none⟩ = false := var_frozen _ _ _ _
  have ra_f2 : (W.alloc (.cells #[.int .i64 0, .int .i64 0, .slice none 0 0] 32)).frozen? ⟨W.heap.size, 2, none⟩ = false := var_frozen _ _ _ _
  generalize (W.alloc (.cells #[.int .i64 0, .int .i64 0, .slice none 0 0] 32)) = w1 at *
  have hz1 : W.heap.size ≤ w1.heap.size := he1.size
  have b1 : Below W.heap.size W w1 := he1.below (Nat.le_refl _) (by omega)
  replace hr := (hr.below (he1.below (B := W.heap.size) (by omega) (by omega)) (Nat.le_refl _))
  have ra_l : W.heap.size < w1.heap.size := (by omega)
  have he2 : Eff 0 0 w1 (w1.alloc (.cells #[.int .i64 0, .int .i64 0, .slice none 0 0] 32)) := Eff.alloc _ _
  have hs2 : (w1.alloc (.cells #[.int .i64 0, .int .i64 0, .slice none 0 0] 32)).heap.size = w1.heap.size + 1 := (by simp)
  have rb_0 : (w1.alloc (.cells #[.int .i64 0, .int .i64 0, .slice none 0 0] 32)).cell? ⟨w1.heap.size, 0, none⟩ = some (.int .i64 0) := var_cell _ _ _ _ _ rfl
  have rb_1 : (w1.alloc (.cells #[.int .i64 0, .int .i64 0, .slice none 0 0] 32)).cell? ⟨w1.heap.size, 1, none⟩ = some (.int .i64 0) := var_cell _ _ _ _ _ rfl
  have rb_2 : (w1.alloc (.cells #[.int .i64 0, .int .i64 0, .slice none 0 0] 32)).cell? ⟨w1.heap.size, 2, none⟩ = some (.slice none 0 0) := var_cell _ _ _ _ _ rfl
  have rb_f0 : (w1.alloc (.cells #[.int .i64 0, .int .i64 0, .slice none 0 0] 32)).frozen? ⟨w1.heap.size, 0, none⟩ = false := var_frozen _ _ _ _
  have rb_f1 : (w1.alloc (.cells #[.int .i64 0, .int .i64 0, .slice none 0 0] 32)).frozen? ⟨w1.heap.size, 1, none⟩ = false := var_frozen _ _ _ _
  have rb_f2 : (w1.alloc (.cells #[.int .i64 0, .int .i64 0, .slice none 0 0] 32)).frozen? ⟨w1.heap.size, 2, none⟩ = false := var_frozen _ _ _ _
  generalize (w1.alloc (.cells #[.int .i64 0, .int .i64 0, .slice none 0 0] 32)) = w2 at *
  have hz2 : w1.heap.size ≤ w2.heap.size := he2.size
  have b2 : Below W.heap.size W w2 := b1.trans (he2.below b1.size (by omega))
  replace hr := (hr.below (he2.below (B := W.heap.size) (by omega) (by omega)) (Nat.le_refl _))
  replace ra_f0 := (he2.frozen ra_0 (by simp only; omega)).trans ra_f0
  replace ra_f1 := (he2.frozen ra_1 (by simp only; omega)).trans ra_f1
  replace ra_f2 := (he2.frozen ra_2 (by simp only; omega)).trans ra_f2
  replace ra_0 := he2.cell ra_0 (by simp only; omega)
  replace ra_1 := he2.cell ra_1 (by simp only; omega)
  replace ra_2 := he2.cell ra_2 (by simp only; omega)
  replace ra_l := Nat.lt_of_lt_of_le ra_l hz2
  rw [hs1] at rb_0 rb_f0
  rw [hs1] at rb_1 rb_f1
  rw [hs1] at rb_2 rb_f2
  have rb_l : W.heap.size + 1 < w2.heap.size := (by omega)
  refine (l01New_any w2 A n c l (hr.more (by omega)) hn).mono ?_
  rintro e w3 ⟨g, hgE, rfl, hc, hb⟩
  have hg1 : w2.heap.size ≤ g := by omega
  have hg2 := hc.lt
  clear hgE
  have he3 : Eff 0 0 w2 w3 := Eff.of hb
  have hz3 : w2.heap.size ≤ w3.heap.size := he3.size
  have b3 : Below W.heap.size W w3 := b2.trans (he3.below b2.size (by omega))
  replace hr := (hr.below (he3.below (B := W.heap.size) (by omega) (by omega)) (Nat.le_refl _))
  replace ra_f0 := (he3.frozen ra_0 (by simp only; omega)).trans ra_f0
  replace ra_f1 := (he3.frozen ra_1 (by simp only; omega)).trans ra_f1
  replace ra_f2 := (he3.frozen ra_2 (by simp only; omega)).trans ra_f2
  replace rb_f0 := (he3.frozen rb_0 (by simp only; omega)).trans rb_f0
  replace rb_f1 := (he3.frozen rb_1 (by simp only; omega)).trans rb_f1
  replace rb_f2 := (he3.frozen rb_2 (by simp only; omega)).trans rb_f2
  replace ra_0 := he3.cell ra_0 (by simp only; omega)
  replace ra_1 := he3.cell ra_1 (by simp only; omega)
  replace ra_2 := he3.cell ra_2 (by simp only; omega)
  replace rb_0 := he3.cell rb_0 (by simp only; omega)
  replace rb_1 := he3.cell rb_1 (by simp only; omega)
  replace rb_2 := he3.cell rb_2 (by simp only; omega)
  replace ra_l := Nat.lt_of_lt_of_le ra_l hz3
  replace rb_l := Nat.lt_of_lt_of_le rb_l hz3
  clear hb
  go_wp2_with fail
  refine (l03Sector_any w2.heap.size g w3 hc).mono ?_
  rintro e w4 hpost
  obtain ⟨q, o, Ax, nx, cx, lx, rfl, ⟨hq0, hq1, ho0, ho1, hnx⟩, hc, x, he⟩ := hpost
  have he4 : Eff (g) (g + 1) w3 w4 := he
  have hz4 : w3.heap.size ≤ w4.heap.size := he4.size
  have b4 : Below W.heap.size W w4 := b3.trans (he4.below b3.size (by omega))
  replace hr := (hr.below (he4.below (B := W.heap.size) (by omega) (by omega)) (Nat.le_refl _))
  replace ra_f0 := (he4.frozen ra_0 (by simp only; omega)).trans ra_f0
  replace ra_f1 := (he4.frozen ra_1 (by simp only; omega)).trans ra_f1
  replace ra_f2 := (he4.frozen ra_2 (by simp only; omega)).trans ra_f2
  replace rb_f0 := (he4.frozen rb_0 (by simp only; omega)).trans rb_f0
  replace rb_f1 := (he4.frozen rb_1 (by simp only; omega)).trans rb_f1
  replace rb_f2 := (he4.frozen rb_2 (by simp only; omega)).trans rb_f2
  replace ra_0 := he4.cell ra_0 (by simp only; omega)
  replace ra_1 := he4.cell ra_1 (by simp only; omega)
  replace ra_2 := he4.cell ra_2 (by simp only; omega)
  replace rb_0 := he4.cell rb_0 (by simp only; omega)
  replace rb_1 := he4.cell rb_1 (by simp only; omega)
  replace rb_2 := he4.cell rb_2 (by simp only; omega)
  replace ra_l := Nat.lt_of_lt_of_le ra_l hz4
  replace rb_l := Nat.lt_of_lt_of_le rb_l hz4
  clear he
  go_wp2_with fail
  have he5 : Eff 0 0 w4 (w4.alloc (.cells #[.int .i64 q, .int .i64 o, .slice Ax nx cx] 32)) := Eff.alloc _ _
  have hs5 : (w4.alloc (.cells #[.int .i64 q, .int .i64 o, .slice Ax nx cx] 32)).heap.size = w4.heap.size + 1 := (by simp)
  have a_0 : (w4.alloc (.cells #[.int .i64 q, .int .i64 o, .slice Ax nx cx] 32)).cell? ⟨w4.heap.size, 0, none⟩ = some (.int .i64 q) := var_cell _ _ _ _ _ rfl
  have a_1 : (w4.alloc (.cells #[.int .i64 q, .int .i64 o, .slice Ax nx cx] 32)).cell? ⟨w4.heap.size, 1, none⟩ = some (.int .i64 o) := var_cell _ _ _ _ _ rfl
  have a_2 : (w4.alloc (.cells #[.int .i64 q, .int .i64 o, .slice Ax nx cx] 32)).cell? ⟨w4.heap.size, 2, none⟩ = some (.slice Ax nx cx) := var_cell _ _ _ _ _ rfl
  have a_f0 : (w4.alloc (.cells #[.int .i64 q, .int .i64 o, .slice Ax nx cx] 32)).frozen? ⟨w4.heap.size, 0, none⟩ = false := var_frozen _ _ _ _
  have a_f1 : (w4.alloc (.cells #[.int .i64 q, .int .i64 o, .slice Ax nx cx] 32)).frozen? ⟨w4.heap.size, 1, none⟩ = false := var_frozen _ _ _ _
  have a_f2 : (w4.alloc (.cells #[.int .i64 q, .int .i64 o, .slice Ax nx cx] 32)).frozen? ⟨w4.heap.size, 2, none⟩ = false := var_frozen _ _ _ _
  generalize (w4.alloc (.cells #[.int .i64 q, .int .i64 o, .slice Ax nx cx] 32)) = w5 at *
  have hz5 : w4.heap.size ≤ w5.heap.size := he5.size
  have b5 : Below W.heap.size W w5 := b4.trans (he5.below b4.size (by omega))
  replace hr := (hr.below (he5.below (B := W.heap.size) (by omega) (by omega)) (Nat.le_refl _))
  replace x := x.keep he5 (by omega)
  replace ra_f0 := (he5.frozen ra_0 (by simp only; omega)).trans ra_f0
  replace ra_f1 := (he5.frozen ra_1 (by simp only; omega)).trans ra_f1
  replace ra_f2 := (he5.frozen ra_2 (by simp only; omega)).trans ra_f2
  replace rb_f0 := (he5.frozen rb_0 (by simp only; omega)).trans rb_f0
  replace rb_f1 := (he5.frozen rb_1 (by simp only; omega)).trans rb_f1
  replace rb_f2 := (he5.frozen rb_2 (by simp only; omega)).trans rb_f2
  replace ra_0 := he5.cell ra_0 (by simp only; omega)
  replace ra_1 := he5.cell ra_1 (by simp only; omega)
  replace ra_2 := he5.cell ra_2 (by simp only; omega)
  replace rb_0 := he5.cell rb_0 (by simp only; omega)
  replace rb_1 := he5.cell rb_1 (by simp only; omega)
  replace rb_2 := he5.cell rb_2 (by simp only; omega)
  replace ra_l := Nat.lt_of_lt_of_le ra_l hz5
  replace rb_l := Nat.lt_of_lt_of_le rb_l hz5
  replace hc := hc.keep he5 (by omega) (by omega)
  have a_l : w4.heap.size < w5.heap.size := (by omega)
  refine (l03Sector_any w2.heap.size g w5 hc).mono ?_
  rintro e w6 hpost
  obtain ⟨q2, o2, Ay, ny, cy, ly, rfl, ⟨hq20, hq21, ho20, ho21, hny⟩, hc, y, he⟩ := hpost
  have he6 : Eff (g) (g + 1) w5 w6 := he
  have hz6 : w5.heap.size ≤ w6.heap.size := he6.size
  have b6 : Below W.heap.size W w6 := b5.trans (he6.below b5.size (by omega))
  replace hr := (hr.below (he6.below (B := W.heap.size) (by omega) (by omega)) (Nat.le_refl _))
  replace x := x.keep he6 (by omega)
  replace ra_f0 := (he6.frozen ra_0 (by simp only; omega)).trans ra_f0
  replace ra_f1 := (he6.frozen ra_1 (by simp only; omega)).trans ra_f1
  replace ra_f2 := (he6.frozen ra_2 (by simp only; omega)).trans ra_f2
  replace rb_f0 := (he6.frozen rb_0 (by simp only; omega)).trans rb_f0
  replace rb_f1 := (he6.frozen rb_1 (by simp only; omega)).trans rb_f1
  replace rb_f2 := (he6.frozen rb_2 (by simp only; omega)).trans rb_f2
  replace a_f0 := (he6.frozen a_0 (by simp only; omega)).trans a_f0
  replace a_f1 := (he6.frozen a_1 (by simp only; omega)).trans a_f1
  replace a_f2 := (he6.frozen a_2 (by simp only; omega)).trans a_f2
  replace ra_0 := he6.cell ra_0 (by simp only; omega)
  replace ra_1 := he6.cell ra_1 (by simp only; omega)
  replace ra_2 := he6.cell ra_2 (by simp only; omega)
  replace rb_0 := he6.cell rb_0 (by simp only; omega)
  replace rb_1 := he6.cell rb_1 (by simp only; omega)
  replace rb_2 := he6.cell rb_2 (by simp only; omega)
  replace a_0 := he6.cell a_0 (by simp only; omega)
  replace a_1 := he6.cell a_1 (by simp only; omega)
  replace a_2 := he6.cell a_2 (by simp only; omega)
  replace ra_l := Nat.lt_of_lt_of_le ra_l hz6
  replace rb_l := Nat.lt_of_lt_of_le rb_l hz6
  replace a_l := Nat.lt_of_lt_of_le a_l hz6
  clear he
  go_wp2_with fail
  have he7 : Eff 0 0 w6 (w6.alloc (.cells #[.int .i64 q, .int .i64 o2, .slice Ay ny cy] 32)) := Eff.alloc _ _
  have hs7 : (w6.alloc (.cells #[.int .i64 q, .int .i64 o2, .slice Ay ny cy] 32)).heap.size = w6.heap.size + 1 := (by simp)
  have b_0 : (w6.alloc (.cells #[.int .i64 q, .int .i64 o2, .slice Ay ny cy] 32)).cell? ⟨w6.heap.size, 0, none⟩ = some (.int .i64 q) := var_cell _ _ _ _ _ rfl
  have b_1 : (w6.alloc (.cells #[.int .i64 q, .int .i64 o2, .slice Ay ny cy] 32)).cell? ⟨w6.heap.size, 1, none⟩ = some (.int .i64 o2) := var_cell _ _ _ _ _ rfl
  have b_2 : (w6.alloc (.cells #[.int .i64 q, .int .i64 o2, .slice Ay ny cy] 32)).cell? ⟨w6.heap.size, 2, none⟩ = some (.slice Ay ny cy) := var_cell _ _ _ _ _ rfl
  have b_f0 : (w6.alloc (.cells #[.int .i64 q, .int .i64 o2, .slice Ay ny cy] 32)).frozen? ⟨w6.heap.size, 0, none⟩ = false := var_frozen _ _ _ _
  have b_f1 : (w6.alloc (.cells #[.int .i64 q, .int .i64 o2, .slice Ay ny cy] 32)).frozen? ⟨w6.heap.size, 1, none⟩ = false := var_frozen _ _ _ _
  have b_f2 : (w6.alloc (.cells #[.int .i64 q, .int .i64 o2, .slice Ay ny cy] 32)).frozen? ⟨w6.heap.size, 2, none⟩ = false := var_frozen _ _ _ _
  generalize (w6.alloc (.cells #[.int .i64 q, .int .i64 o2, .slice Ay ny cy] 32)) = w7 at *
  have hz7 : w6.heap.size ≤ w7.heap.size := he7.size
  have b7 : Below W.heap.size W w7 := b6.trans (he7.below b6.size (by omega))
  replace hr := (hr.below (he7.below (B := W.heap.size) (by omega) (by omega)) (Nat.le_refl _))
  replace x := x.keep he7 (by omega)
  replace y := y.keep he7 (by omega)
  replace ra_f0 := (he7.frozen ra_0 (by simp only; omega)).trans ra_f0
  replace ra_f1 := (he7.frozen ra_1 (by simp only; omega)).trans ra_f1
  replace ra_f2 := (he7.frozen ra_2 (by simp only; omega)).trans ra_f2
  replace rb_f0 := (he7.frozen rb_0 (by simp only; omega)).trans rb_f0
  replace rb_f1 := (he7.frozen rb_1 (by simp only; omega)).trans rb_f1
  replace rb_f2 := (he7.frozen rb_2 (by simp only; omega)).trans rb_f2
  replace a_f0 := (he7.frozen a_0 (by simp only; omega)).trans a_f0
  replace a_f1 := (he7.frozen a_1 (by simp only; omega)).trans a_f1
  replace a_f2 := (he7.frozen a_2 (by simp only; omega)).trans a_f2
  replace ra_0 := he7.cell ra_0 (by simp only; omega)
  replace ra_1 := he7.cell ra_1 (by simp only; omega)
  replace ra_2 := he7.cell ra_2 (by simp only; omega)
  replace rb_0 := he7.cell rb_0 (by simp only; omega)
  replace rb_1 := he7.cell rb_1 (by simp only; omega)
  replace rb_2 := he7.cell rb_2 (by simp only; omega)
  replace a_0 := he7.cell a_0 (by simp only; omega)
  replace a_1 := he7.cell a_1 (by simp only; omega)
  replace a_2 := he7.cell a_2 (by simp only; omega)
  replace ra_l := Nat.lt_of_lt_of_le ra_l hz7
  replace rb_l := Nat.lt_of_lt_of_le rb_l hz7
  replace a_l := Nat.lt_of_lt_of_le a_l hz7
  replace hc := hc.keep he7 (by omega) (by omega)
  have b_l : w6.heap.size < w7.heap.size := (by omega)
  go_cut [] (fun wx => MidTear w2.heap.size g w7 (w6.heap.size) o wx)
  case first =>
    have a_1x := (Eff.alloc w7 (.cells #[.int .i64 1, .int .i64 2, .int .i64 255, .int .i64 256, .int .i64 65536] 3)).cell a_1 (.inr (Nat.zero_le _))
    have he8 : Eff 0 0 w7 w7.drew := (Eff.refl _ _ _).drew
    have hz8 : w7.heap.size ≤ w7.drew.heap.size := he8.size
    have b8 : Below W.heap.size W w7.drew := b7.trans (he8.below b7.size (by omega))
    replace hr := (hr.below (he8.below (B := W.heap.size) (by omega) (by omega)) (Nat.le_refl _))
    replace x := x.keep he8 (by omega)
    replace y := y.keep he8 (by omega)
    replace ra_f0 := (he8.frozen ra_0 (by simp only; omega)).trans ra_f0
    replace ra_f1 := (he8.frozen ra_1 (by simp only; omega)).trans ra_f1
    replace ra_f2 := (he8.frozen ra_2 (by simp only; omega)).trans ra_f2
    replace rb_f0 := (he8.frozen rb_0 (by simp only; omega)).trans rb_f0
    replace rb_f1 := (he8.frozen rb_1 (by simp only; omega)).trans rb_f1
    replace rb_f2 := (he8.frozen rb_2 (by simp only; omega)).trans rb_f2
    replace a_f0 := (he8.frozen a_0 (by simp only; omega)).trans a_f0
    replace a_f1 := (he8.frozen a_1 (by simp only; omega)).trans a_f1
    replace a_f2 := (he8.frozen a_2 (by simp only; omega)).trans a_f2
    replace b_f0 := (he8.frozen b_0 (by simp only; omega)).trans b_f0
    replace b_f1 := (he8.frozen b_1 (by simp only; omega)).trans b_f1
    replace b_f2 := (he8.frozen b_2 (by simp only; omega)).trans b_f2
    replace ra_0 := he8.cell ra_0 (by simp only; omega)
    replace ra_1 := he8.cell ra_1 (by simp only; omega)
    replace ra_2 := he8.cell ra_2 (by simp only; omega)
    replace rb_0 := he8.cell rb_0 (by simp only; omega)
    replace rb_1 := he8.cell rb_1 (by simp only; omega)
    replace rb_2 := he8.cell rb_2 (by simp only; omega)
    replace a_0 := he8.cell a_0 (by simp only; omega)
    replace a_1 := he8.cell a_1 (by simp only; omega)
    replace a_2 := he8.cell a_2 (by simp only; omega)
    replace b_0 := he8.cell b_0 (by simp only; omega)
    replace b_1 := he8.cell b_1 (by simp only; omega)
    replace b_2 := he8.cell b_2 (by simp only; omega)
    replace ra_l := Nat.lt_of_lt_of_le ra_l hz8
    replace rb_l := Nat.lt_of_lt_of_le rb_l hz8
    replace a_l := Nat.lt_of_lt_of_le a_l hz8
    replace b_l := Nat.lt_of_lt_of_le b_l hz8
    replace hc := hc.keep he8 (by omega) (by omega)
    go_region_with (first | (go_at_call 65; have he9 : Eff 0 0 w7.drew (w7.alloc (.cells #[.int .i64 1, .int .i64 2, .int .i64 255, .int .i64 256, .int .i64 65536] 3)).drew := (Eff.undrew (Eff.drew (Eff.alloc _ _))); have hs9 : (w7.alloc (.cells #[.int .i64 1, .int .i64 2, .int .i64 255, .int .i64 256, .int .i64 65536] 3)).drew.heap.size = w7.heap.size + 1 := (by simp); have b0 : Own 3 1 (w7.alloc (.cells #[.int .i64 1, .int .i64 2, .int .i64 255, .int .i64 256, .int .i64 65536] 3)).drew w7.heap.size (w7.heap.size + 1) (some ⟨w7.heap.size, 0, none⟩) 5 5 [.int .i64 1, .int .i64 2, .int .i64 255, .int .i64 256, .int .i64 65536] := (new_rowN w7 [.int .i64 1, .int .i64 2, .int .i64 255, .int .i64 256, .int .i64 65536] 3).drew; generalize (w7.alloc (.cells #[.int .i64 1, .int .i64 2, .int .i64 255, .int .i64 256, .int .i64 65536] 3)).drew = w9 at *; have hz9 : w7.drew.heap.size ≤ w9.heap.size := he9.size; have b9 : Below W.heap.size W w9 := b8.trans (he9.below b8.size (by omega)); replace hr := (hr.below (he9.below (B := W.heap.size) (by omega) (by omega)) (Nat.le_refl _)); replace x := x.keep he9 (by omega); replace y := y.keep he9 (by omega); replace ra_f0 := (he9.frozen ra_0 (by simp only; omega)).trans ra_f0; replace ra_f1 := (he9.frozen ra_1 (by simp only; omega)).trans ra_f1; replace ra_f2 := (he9.frozen ra_2 (by simp only; omega)).trans ra_f2; replace rb_f0 := (he9.frozen rb_0 (by simp only; omega)).trans rb_f0; replace rb_f1 := (he9.frozen rb_1 (by simp only; omega)).trans rb_f1; replace rb_f2 := (he9.frozen rb_2 (by simp only; omega)).trans rb_f2; replace a_f0 := (he9.frozen a_0 (by simp only; omega)).trans a_f0; replace a_f1 := (he9.frozen a_1 (by simp only; omega)).trans a_f1; replace a_f2 := (he9.frozen a_2 (by simp only; omega)).trans a_f2; replace b_f0 := (he9.frozen b_0 (by simp only; omega)).trans b_f0; replace b_f1 := (he9.frozen b_1 (by simp only; omega)).trans b_f1; replace b_f2 := (he9.frozen b_2 (by simp only; omega)).trans b_f2; replace ra_0 := he9.cell ra_0 (by simp only; omega); replace ra_1 := he9.cell ra_1 (by simp only; omega); replace ra_2 := he9.cell ra_2 (by simp only; omega); replace rb_0 := he9.cell rb_0 (by simp only; omega); replace rb_1 := he9.cell rb_1 (by simp only; omega); replace rb_2 := he9.cell rb_2 (by simp only; omega); replace a_0 := he9.cell a_0 (by simp only; omega); replace a_1 := he9.cell a_1 (by simp only; omega); replace a_2 := he9.cell a_2 (by simp only; omega); replace b_0 := he9.cell b_0 (by simp only; omega); replace b_1 := he9.cell b_1 (by simp only; omega); replace b_2 := he9.cell b_2 (by simp only; omega); replace ra_l := Nat.lt_of_lt_of_le ra_l hz9; replace rb_l := Nat.lt_of_lt_of_le rb_l hz9; replace a_l := Nat.lt_of_lt_of_le a_l hz9; replace b_l := Nat.lt_of_lt_of_le b_l hz9; replace hc := hc.keep he9 (by omega) (by omega); refine (l01Below_any w2.heap.size g 5 (by omega) w9 hc).mono ?_; rintro e w10 hpost; obtain ⟨z, rfl, ⟨z_0, z_1, -⟩, hc, he⟩ := hpost.eff; clear hpost; replace z_1 := z_1 (by omega); have he10 : Eff (g) (g + 1) w9 w10 := he; have hz10 : w9.heap.size ≤ w10.heap.size := he10.size; have b10 : Below W.heap.size W w10 := b9.trans (he10.below b9.size (by omega)); replace hr := (hr.below (he10.below (B := W.heap.size) (by omega) (by omega)) (Nat.le_refl _)); replace x := x.keep he10 (by omega); replace y := y.keep he10 (by omega); replace b0 := b0.keep he10 (by omega); replace ra_f0 := (he10.frozen ra_0 (by simp only; omega)).trans ra_f0; replace ra_f1 := (he10.frozen ra_1 (by simp only; omega)).trans ra_f1; replace ra_f2 := (he10.frozen ra_2 (by simp only; omega)).trans ra_f2; replace rb_f0 := (he10.frozen rb_0 (by simp only; omega)).trans rb_f0; replace rb_f1 := (he10.frozen rb_1 (by simp only; omega)).trans rb_f1; replace rb_f2 := (he10.frozen rb_2 (by simp only; omega)).trans rb_f2; replace a_f0 := (he10.frozen a_0 (by simp only; omega)).trans a_f0; replace a_f1 := (he10.frozen a_1 (by simp only; omega)).trans a_f1; replace a_f2 := (he10.frozen a_2 (by simp only; omega)).trans a_f2; replace b_f0 := (he10.frozen b_0 (by simp only; omega)).trans b_f0; replace b_f1 := (he10.frozen b_1 (by simp only; omega)).trans b_f1; replace b_f2 := (he10.frozen b_2 (by simp only; omega)).trans b_f2; replace ra_0 := he10.cell ra_0 (by simp only; omega); replace ra_1 := he10.cell ra_1 (by simp only; omega); replace ra_2 := he10.cell ra_2 (by simp only; omega); replace rb_0 := he10.cell rb_0 (by simp only; omega); replace rb_1 := he10.cell rb_1 (by simp only; omega); replace rb_2 := he10.cell rb_2 (by simp only; omega); replace a_0 := he10.cell a_0 (by simp only; omega); replace a_1 := he10.cell a_1 (by simp only; omega); replace a_2 := he10.cell a_2 (by simp only; omega); replace b_0 := he10.cell b_0 (by simp only; omega); replace b_1 := he10.cell b_1 (by simp only; omega); replace b_2 := he10.cell b_2 (by simp only; omega); replace ra_l := Nat.lt_of_lt_of_le ra_l hz10; replace rb_l := Nat.lt_of_lt_of_le rb_l hz10; replace a_l := Nat.lt_of_lt_of_le a_l hz10; replace b_l := Nat.lt_of_lt_of_le b_l hz10; clear he; obtain ⟨d, ⟨hd0, hd1⟩, hdc⟩ := own_pick b0 z_0 z_1 (P := fun d => 1 ≤ d ∧ d ≤ 65536) (by intro u hu; simp only [List.mem_cons, List.not_mem_nil, or_false] at hu; rcases hu with rfl | rfl | rfl | rfl | rfl <;> exact ⟨_, rfl, by omega, by omega⟩); rw [hs7] at hdc; have hsum : IntKind.i64.wrap (o + d) = o + d := IntWalk.i64_in _ (by omega); have hM : MidTear w2.heap.size g w7 (w6.heap.size) o (w10.setCell ⟨w6.heap.size, 1, none⟩ (.int .i64 (o + d))) := ⟨d, w10, hd0, hd1, hc, (((Eff.refl g (g + 1) w7).step he8 (by omega)).step he9 (by omega)).step he10 (by omega), Eff.refl _ _ _⟩; clear b0) | (go_at_call 65; refine (l01Below_any w2.heap.size g 5 (by omega) w7.drew hc).mono ?_; rintro e w9 hpost; obtain ⟨z, rfl, ⟨z_0, z_1, -⟩, hc, he⟩ := hpost.eff; clear hpost; replace z_1 := z_1 (by omega); have he9 : Eff (g) (g + 1) w7.drew w9 := he; have hz9 : w7.drew.heap.size ≤ w9.heap.size := he9.size; have b9 : Below W.heap.size W w9 := b8.trans (he9.below b8.size (by omega)); replace hr := (hr.below (he9.below (B := W.heap.size) (by omega) (by omega)) (Nat.le_refl _)); replace x := x.keep he9 (by omega); replace y := y.keep he9 (by omega); replace ra_f0 := (he9.frozen ra_0 (by simp only; omega)).trans ra_f0; replace ra_f1 := (he9.frozen ra_1 (by simp only; omega)).trans ra_f1; replace ra_f2 := (he9.frozen ra_2 (by simp only; omega)).trans ra_f2; replace rb_f0 := (he9.frozen rb_0 (by simp only; omega)).trans rb_f0; replace rb_f1 := (he9.frozen rb_1 (by simp only; omega)).trans rb_f1; replace rb_f2 := (he9.frozen rb_2 (by simp only; omega)).trans rb_f2; replace a_f0 := (he9.frozen a_0 (by simp only; omega)).trans a_f0; replace a_f1 := (he9.frozen a_1 (by simp only; omega)).trans a_f1; replace a_f2 := (he9.frozen a_2 (by simp only; omega)).trans a_f2; replace b_f0 := (he9.frozen b_0 (by simp only; omega)).trans b_f0; replace b_f1 := (he9.frozen b_1 (by simp only; omega)).trans b_f1; replace b_f2 := (he9.frozen b_2 (by simp only; omega)).trans b_f2; replace ra_0 := he9.cell ra_0 (by simp only; omega); replace ra_1 := he9.cell ra_1 (by simp only; omega); replace ra_2 := he9.cell ra_2 (by simp only; omega); replace rb_0 := he9.cell rb_0 (by simp only; omega); replace rb_1 := he9.cell rb_1 (by simp only; omega); replace rb_2 := he9.cell rb_2 (by simp only; omega); replace a_0 := he9.cell a_0 (by simp only; omega); replace a_1 := he9.cell a_1 (by simp only; omega); replace a_2 := he9.cell a_2 (by simp only; omega); replace b_0 := he9.cell b_0 (by simp only; omega); replace b_1 := he9.cell b_1 (by simp only; omega); replace b_2 := he9.cell b_2 (by simp only; omega); replace ra_l := Nat.lt_of_lt_of_le ra_l hz9; replace rb_l := Nat.lt_of_lt_of_le rb_l hz9; replace a_l := Nat.lt_of_lt_of_le a_l hz9; replace b_l := Nat.lt_of_lt_of_le b_l hz9; clear he; obtain ⟨d, ⟨hd0, hd1⟩, hdc⟩ := own_pick (new_rowN w9 [.int .i64 1, .int .i64 2, .int .i64 255, .int .i64 256, .int .i64 65536] 3) z_0 z_1 (P := fun d => 1 ≤ d ∧ d ≤ 65536) (by intro u hu; simp only [List.mem_cons, List.not_mem_nil, or_false] at hu; rcases hu with rfl | rfl | rfl | rfl | rfl <;> exact ⟨_, rfl, by omega, by omega⟩); have hsum : IntKind.i64.wrap (o + d) = o + d := IntWalk.i64_in _ (by omega); have a_1y := (Eff.alloc w9 (.cells #[.int .i64 1, .int .i64 2, .int .i64 255, .int .i64 256, .int .i64 65536] 3)).cell a_1 (.inr (Nat.zero_le _)); have hM : MidTear w2.heap.size g w7 (w6.heap.size) o ((w9.setCell ⟨w6.heap.size, 1, none⟩ (.int .i64 (o + d))).alloc (.cells #[.int .i64 1, .int .i64 2, .int .i64 255, .int .i64 256, .int .i64 65536] 3)) := ⟨d, w9, hd0, hd1, hc, ((Eff.refl g (g + 1) w7).step he8 (by omega)).step he9 (by omega), Eff.alloc _ _⟩))
    all_goals (go_wp2_with fail; go_meet; exact hM)
  case rest =>
    obtain ⟨d, wy, hd0, hd1, hcn, hE1, hE2⟩ := hcut
    clear hc
    have hc := hcn
    clear hcn
    have he8 : Eff g (g + 1) w7 wy := hE1
    have hz8 : w7.heap.size ≤ wy.heap.size := he8.size
    have b8 : Below W.heap.size W wy := b7.trans (he8.below b7.size (by omega))
    replace hr := (hr.below (he8.below (B := W.heap.size) (by omega) (by omega)) (Nat.le_refl _))
    replace x := x.keep he8 (by omega)
    replace y := y.keep he8 (by omega)
    replace ra_f0 := (he8.frozen ra_0 (by simp only; omega)).trans ra_f0
    replace ra_f1 := (he8.frozen ra_1 (by simp only; omega)).trans ra_f1
    replace ra_f2 := (he8.frozen ra_2 (by simp only; omega)).trans ra_f2
    replace rb_f0 := (he8.frozen rb_0 (by simp only; omega)).trans rb_f0
    replace rb_f1 := (he8.frozen rb_1 (by simp only; omega)).trans rb_f1
    replace rb_f2 := (he8.frozen rb_2 (by simp only; omega)).trans rb_f2
    replace a_f0 := (he8.frozen a_0 (by simp only; omega)).trans a_f0
    replace a_f1 := (he8.frozen a_1 (by simp only; omega)).trans a_f1
    replace a_f2 := (he8.frozen a_2 (by simp only; omega)).trans a_f2
    replace b_f0 := (he8.frozen b_0 (by simp only; omega)).trans b_f0
    replace b_f1 := (he8.frozen b_1 (by simp only; omega)).trans b_f1
    replace b_f2 := (he8.frozen b_2 (by simp only; omega)).trans b_f2
    replace ra_0 := he8.cell ra_0 (by simp only; omega)
    replace ra_1 := he8.cell ra_1 (by simp only; omega)
    replace ra_2 := he8.cell ra_2 (by simp only; omega)
    replace rb_0 := he8.cell rb_0 (by simp only; omega)
    replace rb_1 := he8.cell rb_1 (by simp only; omega)
    replace rb_2 := he8.cell rb_2 (by simp only; omega)
    replace a_0 := he8.cell a_0 (by simp only; omega)
    replace a_1 := he8.cell a_1 (by simp only; omega)
    replace a_2 := he8.cell a_2 (by simp only; omega)
    replace b_0 := he8.cell b_0 (by simp only; omega)
    replace b_1 := he8.cell b_1 (by simp only; omega)
    replace b_2 := he8.cell b_2 (by simp only; omega)
    replace ra_l := Nat.lt_of_lt_of_le ra_l hz8
    replace rb_l := Nat.lt_of_lt_of_le rb_l hz8
    replace a_l := Nat.lt_of_lt_of_le a_l hz8
    replace b_l := Nat.lt_of_lt_of_le b_l hz8
    have he9 : Eff (w6.heap.size) (w6.heap.size + 1) wy (wy.setCell ⟨w6.heap.size, 1, none⟩ (.int .i64 (o + d))) := eff_set _ _ _ _
    replace ra_f0 := (he9.frozen ra_0 (by simp only; omega)).trans ra_f0
    replace ra_f1 := (he9.frozen ra_1 (by simp only; omega)).trans ra_f1
    replace ra_f2 := (he9.frozen ra_2 (by simp only; omega)).trans ra_f2
    replace rb_f0 := (he9.frozen rb_0 (by simp only; omega)).trans rb_f0
    replace rb_f1 := (he9.frozen rb_1 (by simp only; omega)).trans rb_f1
    replace rb_f2 := (he9.frozen rb_2 (by simp only; omega)).trans rb_f2
    replace a_f0 := (he9.frozen a_0 (by simp only; omega)).trans a_f0
    replace a_f1 := (he9.frozen a_1 (by simp only; omega)).trans a_f1
    replace a_f2 := (he9.frozen a_2 (by simp only; omega)).trans a_f2
    replace b_f0 := set_frozen (p := ⟨w6.heap.size, 1, none⟩) b_f0 (.int .i64 (o + d))
    replace b_f1 := set_frozen (p := ⟨w6.heap.size, 1, none⟩) b_f1 (.int .i64 (o + d))
    replace b_f2 := set_frozen (p := ⟨w6.heap.size, 1, none⟩) b_f2 (.int .i64 (o + d))
    replace ra_0 := he9.cell ra_0 (by simp only; omega)
    replace ra_1 := he9.cell ra_1 (by simp only; omega)
    replace ra_2 := he9.cell ra_2 (by simp only; omega)
    replace rb_0 := he9.cell rb_0 (by simp only; omega)
    replace rb_1 := he9.cell rb_1 (by simp only; omega)
    replace rb_2 := he9.cell rb_2 (by simp only; omega)
    replace a_0 := he9.cell a_0 (by simp only; omega)
    replace a_1 := he9.cell a_1 (by simp only; omega)
    replace a_2 := he9.cell a_2 (by simp only; omega)
    replace b_0 := set_other (b' := w6.heap.size) (o' := 1) b_0 (.int .i64 (o + d)) (.inr (by omega))
    replace b_1 := set_same b_1 (.int .i64 (o + d))
    replace b_2 := set_other (b' := w6.heap.size) (o' := 1) b_2 (.int .i64 (o + d)) (.inr (by omega))
    have hz9 : wy.heap.size ≤ (wy.setCell ⟨w6.heap.size, 1, none⟩ (.int .i64 (o + d))).heap.size := he9.size
    generalize (wy.setCell ⟨w6.heap.size, 1, none⟩ (.int .i64 (o + d))) = w9 at *
    have b9 : Below W.heap.size W w9 := b8.trans (he9.below b8.size (by omega))
    replace hr := (hr.below (he9.below (B := W.heap.size) (by omega) (by omega)) (Nat.le_refl _))
    replace x := x.keep he9 (by omega)
    replace y := y.keep he9 (by omega)
    replace ra_l := Nat.lt_of_lt_of_le ra_l hz9
    replace rb_l := Nat.lt_of_lt_of_le rb_l hz9
    replace a_l := Nat.lt_of_lt_of_le a_l hz9
    replace b_l := Nat.lt_of_lt_of_le b_l hz9
    replace hc := hc.keep he9 (by omega) (by omega)
    have he10 : Eff 0 0 w9 wc := hE2
    have hz10 : w9.heap.size ≤ wc.heap.size := he10.size
    clear hE1 hE2
    have b10 : Below W.heap.size W wc := b9.trans (he10.below b9.size (by omega))
    replace hr := (hr.below (he10.below (B := W.heap.size) (by omega) (by omega)) (Nat.le_refl _))
    replace x := x.keep he10 (by omega)
    replace y := y.keep he10 (by omega)
    replace ra_f0 := (he10.frozen ra_0 (by simp only; omega)).trans ra_f0
    replace ra_f1 := (he10.frozen ra_1 (by simp only; omega)).trans ra_f1
    replace ra_f2 := (he10.frozen ra_2 (by simp only; omega)).trans ra_f2
    replace rb_f0 := (he10.frozen rb_0 (by simp only; omega)).trans rb_f0
    replace rb_f1 := (he10.frozen rb_1 (by simp only; omega)).trans rb_f1
    replace rb_f2 := (he10.frozen rb_2 (by simp only; omega)).trans rb_f2
    replace a_f0 := (he10.frozen a_0 (by simp only; omega)).trans a_f0
    replace a_f1 := (he10.frozen a_1 (by simp only; omega)).trans a_f1
    replace a_f2 := (he10.frozen a_2 (by simp only; omega)).trans a_f2
    replace b_f0 := (he10.frozen b_0 (by simp only; omega)).trans b_f0
    replace b_f1 := (he10.frozen b_1 (by simp only; omega)).trans b_f1
    replace b_f2 := (he10.frozen b_2 (by simp only; omega)).trans b_f2
    replace ra_0 := he10.cell ra_0 (by simp only; omega)
    replace ra_1 := he10.cell ra_1 (by simp only; omega)
    replace ra_2 := he10.cell ra_2 (by simp only; omega)
    replace rb_0 := he10.cell rb_0 (by simp only; omega)
    replace rb_1 := he10.cell rb_1 (by simp only; omega)
    replace rb_2 := he10.cell rb_2 (by simp only; omega)
    replace a_0 := he10.cell a_0 (by simp only; omega)
    replace a_1 := he10.cell a_1 (by simp only; omega)
    replace a_2 := he10.cell a_2 (by simp only; omega)
    replace b_0 := he10.cell b_0 (by simp only; omega)
    replace b_1 := he10.cell b_1 (by simp only; omega)
    replace b_2 := he10.cell b_2 (by simp only; omega)
    replace ra_l := Nat.lt_of_lt_of_le ra_l hz10
    replace rb_l := Nat.lt_of_lt_of_le rb_l hz10
    replace a_l := Nat.lt_of_lt_of_le a_l hz10
    replace b_l := Nat.lt_of_lt_of_le b_l hz10
    replace hc := hc.keep he10 (by omega) (by omega)
    by_cases hE : 16000000 < o + d
    · skip
      go_wp2_with fail
      have he11 : Eff (w6.heap.size) (w6.heap.size + 1) wc (wc.setCell ⟨w6.heap.size, 1, none⟩ (.int .i64 (o - 1))) := eff_set _ _ _ _
      replace ra_f0 := (he11.frozen ra_0 (by simp only; omega)).trans ra_f0
      replace ra_f1 := (he11.frozen ra_1 (by simp only; omega)).trans ra_f1
      replace ra_f2 := (he11.frozen ra_2 (by simp only; omega)).trans ra_f2
      replace rb_f0 := (he11.frozen rb_0 (by simp only; omega)).trans rb_f0
      replace rb_f1 := (he11.frozen rb_1 (by simp only; omega)).trans rb_f1
      replace rb_f2 := (he11.frozen rb_2 (by simp only; omega)).trans rb_f2
      replace a_f0 := (he11.frozen a_0 (by simp only; omega)).trans a_f0
      replace a_f1 := (he11.frozen a_1 (by simp only; omega)).trans a_f1
      replace a_f2 := (he11.frozen a_2 (by simp only; omega)).trans a_f2
      replace b_f0 := set_frozen (p := ⟨w6.heap.size, 1, none⟩) b_f0 (.int .i64 (o - 1))
      replace b_f1 := set_frozen (p := ⟨w6.heap.size, 1, none⟩) b_f1 (.int .i64 (o - 1))
      replace b_f2 := set_frozen (p := ⟨w6.heap.size, 1, none⟩) b_f2 (.int .i64 (o - 1))
      replace ra_0 := he11.cell ra_0 (by simp only; omega)
      replace ra_1 := he11.cell ra_1 (by simp only; omega)
      replace ra_2 := he11.cell ra_2 (by simp only; omega)
      replace rb_0 := he11.cell rb_0 (by simp only; omega)
      replace rb_1 := he11.cell rb_1 (by simp only; omega)
      replace rb_2 := he11.cell rb_2 (by simp only; omega)
      replace a_0 := he11.cell a_0 (by simp only; omega)
      replace a_1 := he11.cell a_1 (by simp only; omega)
      replace a_2 := he11.cell a_2 (by simp only; omega)
      replace b_0 := set_other (b' := w6.heap.size) (o' := 1) b_0 (.int .i64 (o - 1)) (.inr (by omega))
      replace b_1 := set_same b_1 (.int .i64 (o - 1))
      replace b_2 := set_other (b' := w6.heap.size) (o' := 1) b_2 (.int .i64 (o - 1)) (.inr (by omega))
      have hz11 : wc.heap.size ≤ (wc.setCell ⟨w6.heap.size, 1, none⟩ (.int .i64 (o - 1))).heap.size := he11.size
      generalize (wc.setCell ⟨w6.heap.size, 1, none⟩ (.int .i64 (o - 1))) = w11 at *
      have b11 : Below W.heap.size W w11 := b10.trans (he11.below b10.size (by omega))
      replace hr := (hr.below (he11.below (B := W.heap.size) (by omega) (by omega)) (Nat.le_refl _))
      replace x := x.keep he11 (by omega)
      replace y := y.keep he11 (by omega)
      replace ra_l := Nat.lt_of_lt_of_le ra_l hz11
      replace rb_l := Nat.lt_of_lt_of_le rb_l hz11
      replace a_l := Nat.lt_of_lt_of_le a_l hz11
      replace b_l := Nat.lt_of_lt_of_le b_l hz11
      replace hc := hc.keep he11 (by omega) (by omega)
      refine (l01Below_any w2.heap.size g 129 (by omega) w11 hc).mono ?_
      rintro e w12 hpost
      obtain ⟨k, rfl, ⟨k_0, k_1, -⟩, hc, he⟩ := hpost.eff
      clear hpost
      replace k_1 := k_1 (by omega)
      have he12 : Eff (g) (g + 1) w11 w12 := he
      have hz12 : w11.heap.size ≤ w12.heap.size := he12.size
      have b12 : Below W.heap.size W w12 := b11.trans (he12.below b11.size (by omega))
      replace hr := (hr.below (he12.below (B := W.heap.size) (by omega) (by omega)) (Nat.le_refl _))
      replace x := x.keep he12 (by omega)
      replace y := y.keep he12 (by omega)
      replace ra_f0 := (he12.frozen ra_0 (by simp only; omega)).trans ra_f0
      replace ra_f1 := (he12.frozen ra_1 (by simp only; omega)).trans ra_f1
      replace ra_f2 := (he12.frozen ra_2 (by simp only; omega)).trans ra_f2
      replace rb_f0 := (he12.frozen rb_0 (by simp only; omega)).trans rb_f0
      replace rb_f1 := (he12.frozen rb_1 (by simp only; omega)).trans rb_f1
      replace rb_f2 := (he12.frozen rb_2 (by simp only; omega)).trans rb_f2
      replace a_f0 := (he12.frozen a_0 (by simp only; omega)).trans a_f0
      replace a_f1 := (he12.frozen a_1 (by simp only; omega)).trans a_f1
      replace a_f2 := (he12.frozen a_2 (by simp only; omega)).trans a_f2
      replace b_f0 := (he12.frozen b_0 (by simp only; omega)).trans b_f0
      replace b_f1 := (he12.frozen b_1 (by simp only; omega)).trans b_f1
      replace b_f2 := (he12.frozen b_2 (by simp only; omega)).trans b_f2
      replace ra_0 := he12.cell ra_0 (by simp only; omega)
      replace ra_1 := he12.cell ra_1 (by simp only; omega)
      replace ra_2 := he12.cell ra_2 (by simp only; omega)
      replace rb_0 := he12.cell rb_0 (by simp only; omega)
      replace rb_1 := he12.cell rb_1 (by simp only; omega)
      replace rb_2 := he12.cell rb_2 (by simp only; omega)
      replace a_0 := he12.cell a_0 (by simp only; omega)
      replace a_1 := he12.cell a_1 (by simp only; omega)
      replace a_2 := he12.cell a_2 (by simp only; omega)
      replace b_0 := he12.cell b_0 (by simp only; omega)
      replace b_1 := he12.cell b_1 (by simp only; omega)
      replace b_2 := he12.cell b_2 (by simp only; omega)
      replace ra_l := Nat.lt_of_lt_of_le ra_l hz12
      replace rb_l := Nat.lt_of_lt_of_le rb_l hz12
      replace a_l := Nat.lt_of_lt_of_le a_l hz12
      replace b_l := Nat.lt_of_lt_of_le b_l hz12
      clear he
      go_wp2_with fail
      refine (l01Below_any w2.heap.size g 2 (by omega) w12 hc).mono ?_
      rintro e w13 hpost
      obtain ⟨v, rfl, ⟨v_0, v_1, -⟩, hc, he⟩ := hpost.eff
      clear hpost
      replace v_1 := v_1 (by omega)
      have he13 : Eff (g) (g + 1) w12 w13 := he
      have hz13 : w12.heap.size ≤ w13.heap.size := he13.size
      have b13 : Below W.heap.size W w13 := b12.trans (he13.below b12.size (by omega))
      replace hr := (hr.below (he13.below (B := W.heap.size) (by omega) (by omega)) (Nat.le_refl _))
      replace x := x.keep he13 (by omega)
      replace y := y.keep he13 (by omega)
      replace ra_f0 := (he13.frozen ra_0 (by simp only; omega)).trans ra_f0
      replace ra_f1 := (he13.frozen ra_1 (by simp only; omega)).trans ra_f1
      replace ra_f2 := (he13.frozen ra_2 (by simp only; omega)).trans ra_f2
      replace rb_f0 := (he13.frozen rb_0 (by simp only; omega)).trans rb_f0
      replace rb_f1 := (he13.frozen rb_1 (by simp only; omega)).trans rb_f1
      replace rb_f2 := (he13.frozen rb_2 (by simp only; omega)).trans rb_f2
      replace a_f0 := (he13.frozen a_0 (by simp only; omega)).trans a_f0
      replace a_f1 := (he13.frozen a_1 (by simp only; omega)).trans a_f1
      replace a_f2 := (he13.frozen a_2 (by simp only; omega)).trans a_f2
      replace b_f0 := (he13.frozen b_0 (by simp only; omega)).trans b_f0
      replace b_f1 := (he13.frozen b_1 (by simp only; omega)).trans b_f1
      replace b_f2 := (he13.frozen b_2 (by simp only; omega)).trans b_f2
      replace ra_0 := he13.cell ra_0 (by simp only; omega)
      replace ra_1 := he13.cell ra_1 (by simp only; omega)
      replace ra_2 := he13.cell ra_2 (by simp only; omega)
      replace rb_0 := he13.cell rb_0 (by simp only; omega)
      replace rb_1 := he13.cell rb_1 (by simp only; omega)
      replace rb_2 := he13.cell rb_2 (by simp only; omega)
      replace a_0 := he13.cell a_0 (by simp only; omega)
      replace a_1 := he13.cell a_1 (by simp only; omega)
      replace a_2 := he13.cell a_2 (by simp only; omega)
      replace b_0 := he13.cell b_0 (by simp only; omega)
      replace b_1 := he13.cell b_1 (by simp only; omega)
      replace b_2 := he13.cell b_2 (by simp only; omega)
      replace ra_l := Nat.lt_of_lt_of_le ra_l hz13
      replace rb_l := Nat.lt_of_lt_of_le rb_l hz13
      replace a_l := Nat.lt_of_lt_of_le a_l hz13
      replace b_l := Nat.lt_of_lt_of_le b_l hz13
      clear he
      by_cases hv : v = 0
      · skip
        subst hv
        go_wp2_with fail
        have he14 : Eff 0 0 w13 (w13.alloc (.cells #[.int .i64 0, .int .i64 1, .int .i64 6, .int .i64 7, .int .i64 8, .int .i64 9, .int .i64 121, .int .i64 122, .int .i64 124, .int .i64 125, .int .i64 126, .int .i64 127, .int .i64 128] 3)) := (Eff.alloc _ _)
        have hs14 : (w13.alloc (.cells #[.int .i64 0, .int .i64 1, .int .i64 6, .int .i64 7, .int .i64 8, .int .i64 9, .int .i64 121, .int .i64 122, .int .i64 124, .int .i64 125, .int .i64 126, .int .i64 127, .int .i64 128] 3)).heap.size = w13.heap.size + 1 := (by simp)
        have tab : Own 3 1 (w13.alloc (.cells #[.int .i64 0, .int .i64 1, .int .i64 6, .int .i64 7, .int .i64 8, .int .i64 9, .int .i64 121, .int .i64 122, .int .i64 124, .int .i64 125, .int .i64 126, .int .i64 127, .int .i64 128] 3)) w13.heap.size (w13.heap.size + 1) (some ⟨w13.heap.size, 0, none⟩) 13 13 [.int .i64 0, .int .i64 1, .int .i64 6, .int .i64 7, .int .i64 8, .int .i64 9, .int .i64 121, .int .i64 122, .int .i64 124, .int .i64 125, .int .i64 126, .int .i64 127, .int .i64 128] := new_rowN w13 [.int .i64 0, .int .i64 1, .int .i64 6, .int .i64 7, .int .i64 8, .int .i64 9, .int .i64 121, .int .i64 122, .int .i64 124, .int .i64 125, .int .i64 126, .int .i64 127, .int .i64 128] 3
        generalize (w13.alloc (.cells #[.int .i64 0, .int .i64 1, .int .i64 6, .int .i64 7, .int .i64 8, .int .i64 9, .int .i64 121, .int .i64 122, .int .i64 124, .int .i64 125, .int .i64 126, .int .i64 127, .int .i64 128] 3)) = w14 at *
        have hz14 : w13.heap.size ≤ w14.heap.size := he14.size
        have b14 : Below W.heap.size W w14 := b13.trans (he14.below b13.size (by omega))
        replace hr := (hr.below (he14.below (B := W.heap.size) (by omega) (by omega)) (Nat.le_refl _))
        replace x := x.keep he14 (by omega)
        replace y := y.keep he14 (by omega)
        replace ra_f0 := (he14.frozen ra_0 (by simp only; omega)).trans ra_f0
        replace ra_f1 := (he14.frozen ra_1 (by simp only; omega)).trans ra_f1
        replace ra_f2 := (he14.frozen ra_2 (by simp only; omega)).trans ra_f2
        replace rb_f0 := (he14.frozen rb_0 (by simp only; omega)).trans rb_f0
        replace rb_f1 := (he14.frozen rb_1 (by simp only; omega)).trans rb_f1
        replace rb_f2 := (he14.frozen rb_2 (by simp only; omega)).trans rb_f2
        replace a_f0 := (he14.frozen a_0 (by simp only; omega)).trans a_f0
        replace a_f1 := (he14.frozen a_1 (by simp only; omega)).trans a_f1
        replace a_f2 := (he14.frozen a_2 (by simp only; omega)).trans a_f2
        replace b_f0 := (he14.frozen b_0 (by simp only; omega)).trans b_f0
        replace b_f1 := (he14.frozen b_1 (by simp only; omega)).trans b_f1
        replace b_f2 := (he14.frozen b_2 (by simp only; omega)).trans b_f2
        replace ra_0 := he14.cell ra_0 (by simp only; omega)
        replace ra_1 := he14.cell ra_1 (by simp only; omega)
        replace ra_2 := he14.cell ra_2 (by simp only; omega)
        replace rb_0 := he14.cell rb_0 (by simp only; omega)
        replace rb_1 := he14.cell rb_1 (by simp only; omega)
        replace rb_2 := he14.cell rb_2 (by simp only; omega)
        replace a_0 := he14.cell a_0 (by simp only; omega)
        replace a_1 := he14.cell a_1 (by simp only; omega)
        replace a_2 := he14.cell a_2 (by simp only; omega)
        replace b_0 := he14.cell b_0 (by simp only; omega)
        replace b_1 := he14.cell b_1 (by simp only; omega)
        replace b_2 := he14.cell b_2 (by simp only; omega)
        replace ra_l := Nat.lt_of_lt_of_le ra_l hz14
        replace rb_l := Nat.lt_of_lt_of_le rb_l hz14
        replace a_l := Nat.lt_of_lt_of_le a_l hz14
        replace b_l := Nat.lt_of_lt_of_le b_l hz14
        replace hc := hc.keep he14 (by omega) (by omega)
        refine (l01Below_any w2.heap.size g 13 (by omega) w14 hc).mono ?_
        rintro e w15 hpost
        obtain ⟨u, rfl, ⟨u_0, u_1, -⟩, hc, he⟩ := hpost.eff
        clear hpost
        replace u_1 := u_1 (by omega)
        have he15 : Eff (g) (g + 1) w14 w15 := he
        have hz15 : w14.heap.size ≤ w15.heap.size := he15.size
        have b15 : Below W.heap.size W w15 := b14.trans (he15.below b14.size (by omega))
        replace hr := (hr.below (he15.below (B := W.heap.size) (by omega) (by omega)) (Nat.le_refl _))
        replace x := x.keep he15 (by omega)
        replace y := y.keep he15 (by omega)
        replace tab := tab.keep he15 (by omega)
        replace ra_f0 := (he15.frozen ra_0 (by simp only; omega)).trans ra_f0
        replace ra_f1 := (he15.frozen ra_1 (by simp only; omega)).trans ra_f1
        replace ra_f2 := (he15.frozen ra_2 (by simp only; omega)).trans ra_f2
        replace rb_f0 := (he15.frozen rb_0 (by simp only; omega)).trans rb_f0
        replace rb_f1 := (he15.frozen rb_1 (by simp only; omega)).trans rb_f1
        replace rb_f2 := (he15.frozen rb_2 (by simp only; omega)).trans rb_f2
        replace a_f0 := (he15.frozen a_0 (by simp only; omega)).trans a_f0
        replace a_f1 := (he15.frozen a_1 (by simp only; omega)).trans a_f1
        replace a_f2 := (he15.frozen a_2 (by simp only; omega)).trans a_f2
        replace b_f0 := (he15.frozen b_0 (by simp only; omega)).trans b_f0
        replace b_f1 := (he15.frozen b_1 (by simp only; omega)).trans b_f1
        replace b_f2 := (he15.frozen b_2 (by simp only; omega)).trans b_f2
        replace ra_0 := he15.cell ra_0 (by simp only; omega)
        replace ra_1 := he15.cell ra_1 (by simp only; omega)
        replace ra_2 := he15.cell ra_2 (by simp only; omega)
        replace rb_0 := he15.cell rb_0 (by simp only; omega)
        replace rb_1 := he15.cell rb_1 (by simp only; omega)
        replace rb_2 := he15.cell rb_2 (by simp only; omega)
        replace a_0 := he15.cell a_0 (by simp only; omega)
        replace a_1 := he15.cell a_1 (by simp only; omega)
        replace a_2 := he15.cell a_2 (by simp only; omega)
        replace b_0 := he15.cell b_0 (by simp only; omega)
        replace b_1 := he15.cell b_1 (by simp only; omega)
        replace b_2 := he15.cell b_2 (by simp only; omega)
        replace ra_l := Nat.lt_of_lt_of_le ra_l hz15
        replace rb_l := Nat.lt_of_lt_of_le rb_l hz15
        replace a_l := Nat.lt_of_lt_of_le a_l hz15
        replace b_l := Nat.lt_of_lt_of_le b_l hz15
        clear he
        obtain ⟨f, ⟨hf0, hf1⟩, hfc⟩ := own_pick tab u_0 u_1 (P := fun d => 0 ≤ d ∧ d ≤ 128) (by intro u hu; simp only [List.mem_cons, List.not_mem_nil, or_false] at hu; rcases hu with rfl | rfl | rfl | rfl | rfl | rfl | rfl | rfl | rfl | rfl | rfl | rfl | rfl <;> exact ⟨_, rfl, by omega, by omega⟩)
        clear tab
        go_wp2
        go_region
        go_wp2
        refine bodyPost_ret (v := .tuple #[.agg #[.int .i64 q, .int .i64 o, .slice Ax nx cx], .agg #[.int .i64 q, .int .i64 (o - 1), .slice Ay ny cy], .int .i64 f]) (by simp [results, Try.results31, go_sem, *]) rfl ?_
        exact MakeSec.mk ⟨hq0, hq1, by omega, by omega, hnx, by omega, by omega, hny, by omega, by omega, by omega⟩ b15 x y (by first | exact (eff_set6 _ _ _ _ _ _ _ _).drew | exact eff_set6 _ _ _ _ _ _ _ _) (by omega) (by omega) (by omega)
      · skip
        have hv1 : (v == 0) = false := by simp; omega
        clear hv
        go_wp2
        go_region
        go_wp2
        refine bodyPost_ret (v := .tuple #[.agg #[.int .i64 q, .int .i64 o, .slice Ax nx cx], .agg #[.int .i64 q, .int .i64 (o - 1), .slice Ay ny cy], .int .i64 k]) (by simp [results, Try.results31, go_sem, *]) rfl ?_
        exact MakeSec.mk ⟨hq0, hq1, by omega, by omega, hnx, by omega, by omega, hny, by omega, by omega, by omega⟩ b13 x y (by first | exact (eff_set6 _ _ _ _ _ _ _ _).drew | exact eff_set6 _ _ _ _ _ _ _ _) (by omega) (by omega) (by omega)
    · skip
      have hE2 : o + d ≤ 16000000 := by omega
      clear hE
      go_wp2_with fail
      refine (l01Below_any w2.heap.size g 129 (by omega) wc hc).mono ?_
      rintro e w11 hpost
      obtain ⟨k, rfl, ⟨k_0, k_1, -⟩, hc, he⟩ := hpost.eff
      clear hpost
      replace k_1 := k_1 (by omega)
      have he11 : Eff (g) (g + 1) wc w11 := he
      have hz11 : wc.heap.size ≤ w11.heap.size := he11.size
      have b11 : Below W.heap.size W w11 := b10.trans (he11.below b10.size (by omega))
      replace hr := (hr.below (he11.below (B := W.heap.size) (by omega) (by omega)) (Nat.le_refl _))
      replace x := x.keep he11 (by omega)
      replace y := y.keep he11 (by omega)
      replace ra_f0 := (he11.frozen ra_0 (by simp only; omega)).trans ra_f0
      replace ra_f1 := (he11.frozen ra_1 (by simp only; omega)).trans ra_f1
      replace ra_f2 := (he11.frozen ra_2 (by simp only; omega)).trans ra_f2
      replace rb_f0 := (he11.frozen rb_0 (by simp only; omega)).trans rb_f0
      replace rb_f1 := (he11.frozen rb_1 (by simp only; omega)).trans rb_f1
      replace rb_f2 := (he11.frozen rb_2 (by simp only; omega)).trans rb_f2
      replace a_f0 := (he11.frozen a_0 (by simp only; omega)).trans a_f0
      replace a_f1 := (he11.frozen a_1 (by simp only; omega)).trans a_f1
      replace a_f2 := (he11.frozen a_2 (by simp only; omega)).trans a_f2
      replace b_f0 := (he11.frozen b_0 (by simp only; omega)).trans b_f0
      replace b_f1 := (he11.frozen b_1 (by simp only; omega)).trans b_f1
      replace b_f2 := (he11.frozen b_2 (by simp only; omega)).trans b_f2
      replace ra_0 := he11.cell ra_0 (by simp only; omega)
      replace ra_1 := he11.cell ra_1 (by simp only; omega)
      replace ra_2 := he11.cell ra_2 (by simp only; omega)
      replace rb_0 := he11.cell rb_0 (by simp only; omega)
      replace rb_1 := he11.cell rb_1 (by simp only; omega)
      replace rb_2 := he11.cell rb_2 (by simp only; omega)
      replace a_0 := he11.cell a_0 (by simp only; omega)
      replace a_1 := he11.cell a_1 (by simp only; omega)
      replace a_2 := he11.cell a_2 (by simp only; omega)
      replace b_0 := he11.cell b_0 (by simp only; omega)
      replace b_1 := he11.cell b_1 (by simp only; omega)
      replace b_2 := he11.cell b_2 (by simp only; omega)
      replace ra_l := Nat.lt_of_lt_of_le ra_l hz11
      replace rb_l := Nat.lt_of_lt_of_le rb_l hz11
      replace a_l := Nat.lt_of_lt_of_le a_l hz11
      replace b_l := Nat.lt_of_lt_of_le b_l hz11
      clear he
      go_wp2_with fail
      refine (l01Below_any w2.heap.size g 2 (by omega) w11 hc).mono ?_
      rintro e w12 hpost
      obtain ⟨v, rfl, ⟨v_0, v_1, -⟩, hc, he⟩ := hpost.eff
      clear hpost
      replace v_1 := v_1 (by omega)
      have he12 : Eff (g) (g + 1) w11 w12 := he
      have hz12 : w11.heap.size ≤ w12.heap.size := he12.size
      have b12 : Below W.heap.size W w12 := b11.trans (he12.below b11.size (by omega))
      replace hr := (hr.below (he12.below (B := W.heap.size) (by omega) (by omega)) (Nat.le_refl _))
      replace x := x.keep he12 (by omega)
      replace y := y.keep he12 (by omega)
      replace ra_f0 := (he12.frozen ra_0 (by simp only; omega)).trans ra_f0
      replace ra_f1 := (he12.frozen ra_1 (by simp only; omega)).trans ra_f1
      replace ra_f2 := (he12.frozen ra_2 (by simp only; omega)).trans ra_f2
      replace rb_f0 := (he12.frozen rb_0 (by simp only; omega)).trans rb_f0
      replace rb_f1 := (he12.frozen rb_1 (by simp only; omega)).trans rb_f1
      replace rb_f2 := (he12.frozen rb_2 (by simp only; omega)).trans rb_f2
      replace a_f0 := (he12.frozen a_0 (by simp only; omega)).trans a_f0
      replace a_f1 := (he12.frozen a_1 (by simp only; omega)).trans a_f1
      replace a_f2 := (he12.frozen a_2 (by simp only; omega)).trans a_f2
      replace b_f0 := (he12.frozen b_0 (by simp only; omega)).trans b_f0
      replace b_f1 := (he12.frozen b_1 (by simp only; omega)).trans b_f1
      replace b_f2 := (he12.frozen b_2 (by simp only; omega)).trans b_f2
      replace ra_0 := he12.cell ra_0 (by simp only; omega)
      replace ra_1 := he12.cell ra_1 (by simp only; omega)
      replace ra_2 := he12.cell ra_2 (by simp only; omega)
      replace rb_0 := he12.cell rb_0 (by simp only; omega)
      replace rb_1 := he12.cell rb_1 (by simp only; omega)
      replace rb_2 := he12.cell rb_2 (by simp only; omega)
      replace a_0 := he12.cell a_0 (by simp only; omega)
      replace a_1 := he12.cell a_1 (by simp only; omega)
      replace a_2 := he12.cell a_2 (by simp only; omega)
      replace b_0 := he12.cell b_0 (by simp only; omega)
      replace b_1 := he12.cell b_1 (by simp only; omega)
      replace b_2 := he12.cell b_2 (by simp only; omega)
      replace ra_l := Nat.lt_of_lt_of_le ra_l hz12
      replace rb_l := Nat.lt_of_lt_of_le rb_l hz12
      replace a_l := Nat.lt_of_lt_of_le a_l hz12
      replace b_l := Nat.lt_of_lt_of_le b_l hz12
      clear he
      by_cases hv : v = 0
      · skip
        subst hv
        go_wp2_with fail
        have he13 : Eff 0 0 w12 (w12.alloc (.cells #[.int .i64 0, .int .i64 1, .int .i64 6, .int .i64 7, .int .i64 8, .int .i64 9, .int .i64 121, .int .i64 122, .int .i64 124, .int .i64 125, .int .i64 126, .int .i64 127, .int .i64 128] 3)) := (Eff.alloc _ _)
        have hs13 : (w12.alloc (.cells #[.int .i64 0, .int .i64 1, .int .i64 6, .int .i64 7, .int .i64 8, .int .i64 9, .int .i64 121, .int .i64 122, .int .i64 124, .int .i64 125, .int .i64 126, .int .i64 127, .int .i64 128] 3)).heap.size = w12.heap.size + 1 := (by simp)
        have tab : Own 3 1 (w12.alloc (.cells #[.int .i64 0, .int .i64 1, .int .i64 6, .int .i64 7, .int .i64 8, .int .i64 9, .int .i64 121, .int .i64 122, .int .i64 124, .int .i64 125, .int .i64 126, .int .i64 127, .int .i64 128] 3)) w12.heap.size (w12.heap.size + 1) (some ⟨w12.heap.size, 0, none⟩) 13 13 [.int .i64 0, .int .i64 1, .int .i64 6, .int .i64 7, .int .i64 8, .int .i64 9, .int .i64 121, .int .i64 122, .int .i64 124, .int .i64 125, .int .i64 126, .int .i64 127, .int .i64 128] := new_rowN w12 [.int .i64 0, .int .i64 1, .int .i64 6, .int .i64 7, .int .i64 8, .int .i64 9, .int .i64 121, .int .i64 122, .int .i64 124, .int .i64 125, .int .i64 126, .int .i64 127, .int .i64 128] 3
        generalize (w12.alloc (.cells #[.int .i64 0, .int .i64 1, .int .i64 6, .int .i64 7, .int .i64 8, .int .i64 9, .int .i64 121, .int .i64 122, .int .i64 124, .int .i64 125, .int .i64 126, .int .i64 127, .int .i64 128] 3)) = w13 at *
        have hz13 : w12.heap.size ≤ w13.heap.size := he13.size
        have b13 : Below W.heap.size W w13 := b12.trans (he13.below b12.size (by omega))
        replace hr := (hr.below (he13.below (B := W.heap.size) (by omega) (by omega)) (Nat.le_refl _))
        replace x := x.keep he13 (by omega)
        replace y := y.keep he13 (by omega)
        replace ra_f0 := (he13.frozen ra_0 (by simp only; omega)).trans ra_f0
        replace ra_f1 := (he13.frozen ra_1 (by simp only; omega)).trans ra_f1
        replace ra_f2 := (he13.frozen ra_2 (by simp only; omega)).trans ra_f2
        replace rb_f0 := (he13.frozen rb_0 (by simp only; omega)).trans rb_f0
        replace rb_f1 := (he13.frozen rb_1 (by simp only; omega)).trans rb_f1
        replace rb_f2 := (he13.frozen rb_2 (by simp only; omega)).trans rb_f2
        replace a_f0 := (he13.frozen a_0 (by simp only; omega)).trans a_f0
        replace a_f1 := (he13.frozen a_1 (by simp only; omega)).trans a_f1
        replace a_f2 := (he13.frozen a_2 (by simp only; omega)).trans a_f2
        replace b_f0 := (he13.frozen b_0 (by simp only; omega)).trans b_f0
        replace b_f1 := (he13.frozen b_1 (by simp only; omega)).trans b_f1
        replace b_f2 := (he13.frozen b_2 (by simp only; omega)).trans b_f2
        replace ra_0 := he13.cell ra_0 (by simp only; omega)
        replace ra_1 := he13.cell ra_1 (by simp only; omega)
        replace ra_2 := he13.cell ra_2 (by simp only; omega)
        replace rb_0 := he13.cell rb_0 (by simp only; omega)
        replace rb_1 := he13.cell rb_1 (by simp only; omega)
        replace rb_2 := he13.cell rb_2 (by simp only; omega)
        replace a_0 := he13.cell a_0 (by simp only; omega)
        replace a_1 := he13.cell a_1 (by simp only; omega)
        replace a_2 := he13.cell a_2 (by simp only; omega)
        replace b_0 := he13.cell b_0 (by simp only; omega)
        replace b_1 := he13.cell b_1 (by simp only; omega)
        replace b_2 := he13.cell b_2 (by simp only; omega)
        replace ra_l := Nat.lt_of_lt_of_le ra_l hz13
        replace rb_l := Nat.lt_of_lt_of_le rb_l hz13
        replace a_l := Nat.lt_of_lt_of_le a_l hz13
        replace b_l := Nat.lt_of_lt_of_le b_l hz13
        replace hc := hc.keep he13 (by omega) (by omega)
        refine (l01Below_any w2.heap.size g 13 (by omega) w13 hc).mono ?_
        rintro e w14 hpost
        obtain ⟨u, rfl, ⟨u_0, u_1, -⟩, hc, he⟩ := hpost.eff
        clear hpost
        replace u_1 := u_1 (by omega)
        have he14 : Eff (g) (g + 1) w13 w14 := he
        have hz14 : w13.heap.size ≤ w14.heap.size := he14.size
        have b14 : Below W.heap.size W w14 := b13.trans (he14.below b13.size (by omega))
        replace hr := (hr.below (he14.below (B := W.heap.size) (by omega) (by omega)) (Nat.le_refl _))
        replace x := x.keep he14 (by omega)
        replace y := y.keep he14 (by omega)
        replace tab := tab.keep he14 (by omega)
        replace ra_f0 := (he14.frozen ra_0 (by simp only; omega)).trans ra_f0
        replace ra_f1 := (he14.frozen ra_1 (by simp only; omega)).trans ra_f1
        replace ra_f2 := (he14.frozen ra_2 (by simp only; omega)).trans ra_f2
        replace rb_f0 := (he14.frozen rb_0 (by simp only; omega)).trans rb_f0
        replace rb_f1 := (he14.frozen rb_1 (by simp only; omega)).trans rb_f1
        replace rb_f2 := (he14.frozen rb_2 (by simp only; omega)).trans rb_f2
        replace a_f0 := (he14.frozen a_0 (by simp only; omega)).trans a_f0
        replace a_f1 := (he14.frozen a_1 (by simp only; omega)).trans a_f1
        replace a_f2 := (he14.frozen a_2 (by simp only; omega)).trans a_f2
        replace b_f0 := (he14.frozen b_0 (by simp only; omega)).trans b_f0
        replace b_f1 := (he14.frozen b_1 (by simp only; omega)).trans b_f1
        replace b_f2 := (he14.frozen b_2 (by simp only; omega)).trans b_f2
        replace ra_0 := he14.cell ra_0 (by simp only; omega)
        replace ra_1 := he14.cell ra_1 (by simp only; omega)
        replace ra_2 := he14.cell ra_2 (by simp only; omega)
        replace rb_0 := he14.cell rb_0 (by simp only; omega)
        replace rb_1 := he14.cell rb_1 (by simp only; omega)
        replace rb_2 := he14.cell rb_2 (by simp only; omega)
        replace a_0 := he14.cell a_0 (by simp only; omega)
        replace a_1 := he14.cell a_1 (by simp only; omega)
        replace a_2 := he14.cell a_2 (by simp only; omega)
        replace b_0 := he14.cell b_0 (by simp only; omega)
        replace b_1 := he14.cell b_1 (by simp only; omega)
        replace b_2 := he14.cell b_2 (by simp only; omega)
        replace ra_l := Nat.lt_of_lt_of_le ra_l hz14
        replace rb_l := Nat.lt_of_lt_of_le rb_l hz14
        replace a_l := Nat.lt_of_lt_of_le a_l hz14
        replace b_l := Nat.lt_of_lt_of_le b_l hz14
        clear he
        obtain ⟨f, ⟨hf0, hf1⟩, hfc⟩ := own_pick tab u_0 u_1 (P := fun d => 0 ≤ d ∧ d ≤ 128) (by intro u hu; simp only [List.mem_cons, List.not_mem_nil, or_false] at hu; rcases hu with rfl | rfl | rfl | rfl | rfl | rfl | rfl | rfl | rfl | rfl | rfl | rfl | rfl <;> exact ⟨_, rfl, by omega, by omega⟩)
        clear tab
        go_wp2
        go_region
        go_wp2
        refine bodyPost_ret (v := .tuple #[.agg #[.int .i64 q, .int .i64 o, .slice Ax nx cx], .agg #[.int .i64 q, .int .i64 (o + d), .slice Ay ny cy], .int .i64 f]) (by simp [results, Try.results31, go_sem, *]) rfl ?_
        exact MakeSec.mk ⟨hq0, hq1, by omega, by omega, hnx, by omega, by omega, hny, by omega, by omega, by omega⟩ b14 x y (by first | exact (eff_set6 _ _ _ _ _ _ _ _).drew | exact eff_set6 _ _ _ _ _ _ _ _) (by omega) (by omega) (by omega)
      · skip
        have hv1 : (v == 0) = false := by simp; omega
        clear hv
        go_wp2
        go_region
        go_wp2
        refine bodyPost_ret (v := .tuple #[.agg #[.int .i64 q, .int .i64 o, .slice Ax nx cx], .agg #[.int .i64 q, .int .i64 (o + d), .slice Ay ny cy], .int .i64 k]) (by simp [results, Try.results31, go_sem, *]) rfl ?_
        exact MakeSec.mk ⟨hq0, hq1, by omega, by omega, hnx, by omega, by omega, hny, by omega, by omega, by omega⟩ b12 x y (by first | exact (eff_set6 _ _ _ _ _ _ _ _).drew | exact eff_set6 _ _ _ _ _ _ _ _) (by omega) (by omega) (by omega)
end Go.Proofs.Ytdjjmagocakpnaa
