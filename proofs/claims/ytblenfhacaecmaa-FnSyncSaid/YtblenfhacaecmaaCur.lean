/- The cursor of the draws (l01New, l01Byte, l01Below, l01Raw, l01Amt, l01Two): what they return lies in its range, and only the cursor's own block changes. -/
import Derived.Test.YtblenfhacaecmaaMem
import Derived.Deep.QuietTactic
import Derived.BigQuiet
namespace Go.Proofs.Ytblenfhacaecmaa
open Go.RowKit

/-- Block g is a cursor over a slice of bytes that lies below block B. -/
def Cur (B : Nat) (w : World) (g : Nat) : Prop :=
  ∃ (A : Option Addr) (n c : Nat) (l : List UInt8) (i : Nat) (h : Int), w.heap[g]? = some (.cells #[.slice A n c, .int .i64 (i : Int), .int .i64 h] 106 (0, 0)) ∧
    Rd w B 1 A n (Lib.byteCells l) ∧ i ≤ n ∧ n ≤ 1048576 ∧ B ≤ g

/-- An integer with the property, and only the cursor has moved on. -/
def CurPost (B g : Nat) (p : Int → Prop) (w : World) (e : Ending) (w' : World) : Prop :=
  ∃ x : Int, e = .returned (.int .i64 x) ∧ p x ∧ Cur B w' g ∧ w.grownBy w' (some g)

theorem and255 (a : Int) : 0 ≤ bits .and .i64 a 255 ∧ bits .and .i64 a 255 < 256 := by
  have e : bits .and .i64 a 255 = IntKind.i64.wrap ((BitVec.ofInt 64 a &&& BitVec.ofInt 64 255).toNat : Int) := rfl
  have h : (BitVec.ofInt 64 a &&& BitVec.ofInt 64 255).toNat ≤ 255 := by
    rw [BitVec.toNat_and]; exact Nat.and_le_right
  rw [e, IntKind.wrap_i64]
  omega

theorem l01Byte_in (B g : Nat) (w : World) (A : Option Addr) (n c : Nat) (l : List UInt8) (i : Nat) (h : Int) (hg : w.heap[g]? = some (.cells #[.slice A n c, .int .i64 (i : Int), .int .i64 h] 106 (0, 0)))
    (hr : Rd w B 1 A n (Lib.byteCells l)) (hi : i < n) (hn : n ≤ 1048576) (hB : B ≤ g) :
    Calls Try.prog 88 #[.pointer (some ⟨g, 0, none⟩)] w (CurPost B g (fun x => 0 ≤ x ∧ x < 256) w) := by
  have c0 : w.cell? ⟨g, 0, none⟩ = some (.slice A n c) := by rw [cell_of_row w g 0 _ _ _ hg]; rfl
  have c1 : w.cell? ⟨g, 1, none⟩ = some (.int .i64 (i : Int)) := by rw [cell_of_row w g 1 _ _ _ hg]; rfl
  have c2 : w.cell? ⟨g, 2, none⟩ = some (.int .i64 h) := by rw [cell_of_row w g 2 _ _ _ hg]; rfl
  have f1 := frozen_of_row w g 1 _ _ hg
  have f2 := frozen_of_row w g 2 _ _ hg
  obtain ⟨b, off, hl, rfl, hbB, hc⟩ := hr.byte hi
  obtain ⟨z, hz⟩ : ∃ z : Int, (l[i].toNat : Int) = z := ⟨_, rfl⟩
  have hzb := byte_lt l[i]
  rw [hz] at hc hzb
  obtain ⟨hz0, hz1⟩ := hzb
  clear hz
  go_enter Try.func88, Try.ntmps88
  go_wp2
  generalize wrap64 (wrap64 (h * 6364136223846793005) + 1442695040888963407) = h2
  have g2 : w.grownBy (w.setCell ⟨g, 2, none⟩ (.int .i64 h2)) (some g) := ⟨rfl, rfl, rfl, by simp, fun k _ hk => heap_setCell_other w _ k _ (fun e => hk (by rw [e]))⟩
  have hg2 := heap_setCell_same w g 2 _ _ (.int .i64 h2) hg
  have hr2 : Rd (w.setCell ⟨g, 2, none⟩ (.int .i64 h2)) B 1 _ n (Lib.byteCells l) := hr.grown g2 (fun k hk => by cases hk; exact hB)
  have hcb : (w.setCell ⟨g, 2, none⟩ (.int .i64 h2)).cell? ⟨b, off + i, none⟩ = some (.int .u8 z) := g2.cell hc (fun e => by simp at e; omega)
  generalize hw2 : w.setCell ⟨g, 2, none⟩ (.int .i64 h2) = w2 at *
  clear hw2 c0 c1 c2 f1 f2 hc hg hr
  have c0 : w2.cell? ⟨g, 0, none⟩ = some (.slice (some ⟨b, off, none⟩) n c) := by rw [cell_of_row w2 g 0 _ _ _ hg2]; rfl
  have c1 : w2.cell? ⟨g, 1, none⟩ = some (.int .i64 (i : Int)) := by rw [cell_of_row w2 g 1 _ _ _ hg2]; rfl
  have c2 : w2.cell? ⟨g, 2, none⟩ = some (.int .i64 h2) := by rw [cell_of_row w2 g 2 _ _ _ hg2]; rfl
  have f1 := frozen_of_row w2 g 1 _ _ hg2
  have G2 := Lib.hid hg2
  have H2 := Lib.hid g2
  have R2 := Lib.hid hr2
  clear hg2 g2 hr2
  go_quiet (fail)
  go_wp2
  go_quiet (fail)
  go_wp2
  go_quiet (fail)
  go_wp2
  go_ret
  refine ⟨_, rfl, and255 _, ?_, ?_⟩
  · refine ⟨some ⟨b, off, none⟩, n, c, l, i + 1, h2, (heap_setCell_same _ g 1 _ _ _ G2.out).trans (by simp), ?_, hi, hn, hB⟩
    exact Rd.setCell (show Rd _ B 1 _ n _ from R2.out) hB _
  · exact ⟨H2.out.os, H2.out.tape, H2.out.output, Nat.le_trans H2.out.size (by simp), fun k hk hne => (heap_setCell_other _ _ k _ (fun e => hne (by rw [e]))).trans (H2.out.block k hk hne)⟩

theorem l01Byte_end (B g : Nat) (w : World) (A : Option Addr) (n c : Nat) (l : List UInt8) (i : Nat) (h : Int) (hg : w.heap[g]? = some (.cells #[.slice A n c, .int .i64 (i : Int), .int .i64 h] 106 (0, 0)))
    (hr : Rd w B 1 A n (Lib.byteCells l)) (hi : n ≤ i) (hin : i ≤ n) (hn : n ≤ 1048576) (hB : B ≤ g) :
    Calls Try.prog 88 #[.pointer (some ⟨g, 0, none⟩)] w (CurPost B g (fun x => 0 ≤ x ∧ x < 256) w) := by
  have c0 : w.cell? ⟨g, 0, none⟩ = some (.slice A n c) := by rw [cell_of_row w g 0 _ _ _ hg]; rfl
  have c1 : w.cell? ⟨g, 1, none⟩ = some (.int .i64 (i : Int)) := by rw [cell_of_row w g 1 _ _ _ hg]; rfl
  have c2 : w.cell? ⟨g, 2, none⟩ = some (.int .i64 h) := by rw [cell_of_row w g 2 _ _ _ hg]; rfl
  have f1 := frozen_of_row w g 1 _ _ hg
  have f2 := frozen_of_row w g 2 _ _ hg
  go_enter Try.func88, Try.ntmps88
  go_wp2
  generalize wrap64 (wrap64 (h * 6364136223846793005) + 1442695040888963407) = h2
  have g2 : w.grownBy (w.setCell ⟨g, 2, none⟩ (.int .i64 h2)) (some g) := ⟨rfl, rfl, rfl, by simp, fun k _ hk => heap_setCell_other w _ k _ (fun e => hk (by rw [e]))⟩
  have hg2 := heap_setCell_same w g 2 _ _ (.int .i64 h2) hg
  have hr2 : Rd (w.setCell ⟨g, 2, none⟩ (.int .i64 h2)) B 1 _ n (Lib.byteCells l) := hr.grown g2 (fun k hk => by cases hk; exact hB)
  generalize hw2 : w.setCell ⟨g, 2, none⟩ (.int .i64 h2) = w2 at *
  clear hw2 c0 c1 c2 f1 f2 hg hr
  have c0 : w2.cell? ⟨g, 0, none⟩ = some (.slice A n c) := by rw [cell_of_row w2 g 0 _ _ _ hg2]; rfl
  have c1 : w2.cell? ⟨g, 1, none⟩ = some (.int .i64 (i : Int)) := by rw [cell_of_row w2 g 1 _ _ _ hg2]; rfl
  have c2 : w2.cell? ⟨g, 2, none⟩ = some (.int .i64 h2) := by rw [cell_of_row w2 g 2 _ _ _ hg2]; rfl
  have f1 := frozen_of_row w2 g 1 _ _ hg2
  have G2 := Lib.hid hg2
  have H2 := Lib.hid g2
  have R2 := Lib.hid hr2
  clear hg2 g2 hr2
  go_quiet (fail)
  go_wp2
  go_quiet (fail)
  go_wp2
  go_ret
  exact ⟨_, rfl, and255 _, ⟨_, n, c, l, i, h2, G2.out, R2.out.drewN _ |>.drewN _, hin, hn, hB⟩, ⟨H2.out.os, H2.out.tape, H2.out.output, H2.out.size, H2.out.block⟩⟩

theorem l01Byte_any (B g : Nat) (w : World) (h : Cur B w g) : Calls Try.prog 88 #[.pointer (some ⟨g, 0, none⟩)] w (CurPost B g (fun x => 0 ≤ x ∧ x < 256) w) := by
  obtain ⟨A, n, c, l, i, h, hg, hr, hi, hn, hB⟩ := h
  by_cases hlt : i < n
  · exact l01Byte_in B g w A n c l i h hg hr hlt hn hB
  · exact l01Byte_end B g w A n c l i h hg hr (by omega) hi hn hB

theorem CurPost.of {B g : Nat} {p p' : Int → Prop} {w : World} {e : Ending} {w' : World} (h : CurPost B g p w e w') (hp : ∀ x, p x → p' x) : CurPost B g p' w e w' := by
  obtain ⟨x, he, hx, hc, hg⟩ := h
  exact ⟨x, he, hp x hx, hc, hg⟩

theorem grownBy_trans {a b c : World} {r : Option Nat} (h : a.grownBy b r) (k : b.grownBy c r) : a.grownBy c r :=
  ⟨k.os.trans h.os, k.tape.trans h.tape, k.output.trans h.output, Nat.le_trans h.size k.size, fun i hi hne => (k.block i (Nat.lt_of_lt_of_le hi h.size) hne).trans (h.block i hi hne)⟩

/-- What l01Below gives. -/
def inBelow (n x : Int) : Prop := 0 ≤ x ∧ (0 < n → x < n) ∧ (n ≤ 0 → x = 0)

set_option maxHeartbeats 400000 in
theorem l01Below_any (B g : Nat) (n : Int) (hn : n ≤ 9223372036854775807) (w : World) (h : Cur B w g) : Calls Try.prog 80 #[.pointer (some ⟨g, 0, none⟩), .int .i64 n] w (CurPost B g (inBelow n) w) := by
  by_cases h0 : n ≤ 0
  · go_enter Try.func80, Try.ntmps80
    go_wp2_with fail
    go_ret
    exact ⟨0, rfl, ⟨by omega, by omega, by omega⟩, h, World.grownBy.refl _ _⟩
  · have h0' : 0 < n := by omega
    clear h0
    by_cases h1 : n ≤ 256
    · go_enter Try.func80, Try.ntmps80
      go_wp2_with (go_at_call 88; refine (l01Byte_any B g _ h).mono ?_; rintro e w1 ⟨x, rfl, ⟨hx0, hx1⟩, hc1, hg1⟩)
      go_ret
      exact ⟨x % n, rfl, ⟨Int.emod_nonneg _ (by omega), fun _ => Int.emod_lt_of_pos _ h0', by omega⟩, hc1, hg1⟩
    · have h1' : 256 < n := by omega
      clear h1
      go_enter Try.func80, Try.ntmps80
      go_wp2_with fail
      refine (l01Byte_any B g _ h).mono ?_
      rintro e w1 ⟨x1, rfl, ⟨hx1, hx1'⟩, hc1, hg1⟩
      go_wp2_with fail
      refine (l01Byte_any B g _ hc1).mono ?_
      rintro e w2 ⟨x2, rfl, ⟨hx2, hx2'⟩, hc2, hg2⟩
      go_wp2_with fail
      refine (l01Byte_any B g _ hc2).mono ?_
      rintro e w3 ⟨x3, rfl, ⟨hx3, hx3'⟩, hc3, hg3⟩
      go_wp2_with fail
      refine (l01Byte_any B g _ hc3).mono ?_
      rintro e w4 ⟨x4, rfl, ⟨hx4, hx4'⟩, hc4, hg4⟩
      go_wp2_with fail
      go_ret
      exact ⟨(x1 * 16777216 + x2 * 65536 + x3 * 256 + x4) % n, rfl, ⟨Int.emod_nonneg _ (by omega), fun _ => Int.emod_lt_of_pos _ h0', by omega⟩, hc4, grownBy_trans (grownBy_trans (grownBy_trans hg1 hg2) hg3) hg4⟩

/-- A cursor is made: block g, new. -/
def NewCur (w : World) (e : Ending) (w' : World) : Prop := ∃ g, g = w.heap.size ∧ e = .returned (.pointer (some ⟨g, 0, none⟩)) ∧ Cur w.heap.size w' g ∧ Below w.heap.size w w'

set_option maxRecDepth 100000 in
theorem l01New_any (w : World) (A : Option Addr) (n c : Nat) (l : List UInt8) (hr : Rd w w.heap.size 1 A n (Lib.byteCells l)) (hn : n ≤ 1048576) :
    Calls Try.prog 64 #[.slice A n c] w (NewCur w) := by
  go_enter Try.func64, Try.ntmps64
  go_wp2
  go_loop [3, 4] (fun vh vi => ∃ (h : Int) (k : Nat), k ≤ n ∧ vh = .int .i64 h ∧ vi = .int .i64 (k : Int)) (fun _ vi => n - (intOf vi).toNat)
  case atStart => exact ⟨_, 0, Nat.zero_le _, rfl, rfl⟩
  case round =>
    obtain ⟨h, k, hk, rfl, rfl⟩ := hrel
    by_cases hlt : k < n
    · by_cases h4 : k < 4000
      · obtain ⟨b, off, hl, rfl, hbB, hc⟩ := hr.byte hlt
        obtain ⟨z, hz⟩ : ∃ z : Int, (l[k].toNat : Int) = z := ⟨_, rfl⟩
        rw [hz] at hc
        clear hz
        go_wp2
        go_round
        case rel => exact ⟨_, k + 1, by omega, rfl, by go_num⟩
        case measure => simp [intOf]; omega
      · have h4' : 4000 ≤ k := by omega
        clear h4
        go_wp2
        go_ret
        exact ⟨_, rfl, rfl, ⟨A, n, c, l, 0, _, heap_alloc_new _ _, hr.alloc (Nat.le_refl _) _, Nat.zero_le _, hn, Nat.le_refl _⟩, (Below.refl _ _).alloc (Nat.le_refl _) _⟩
    · have hge : n ≤ k := by omega
      clear hlt
      go_wp2
      go_ret
      exact ⟨_, rfl, rfl, ⟨A, n, c, l, 0, _, heap_alloc_new _ _, hr.alloc (Nat.le_refl _) _, Nat.zero_le _, hn, Nat.le_refl _⟩, (Below.refl _ _).alloc (Nat.le_refl _) _⟩
end Go.Proofs.Ytblenfhacaecmaa
