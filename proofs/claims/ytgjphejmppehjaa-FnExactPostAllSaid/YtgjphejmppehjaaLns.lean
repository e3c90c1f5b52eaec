/- Slices of lines. -/
import Derived.Test.YtgjphejmppehjaaLn
namespace Go.Proofs.Ytgjphejmppehjaa
open Go.RowKit
def OwnL (w : World) (lo hi : Nat) (A : Option Addr) (n c : Nat) (ls : List Ln) : Prop := Own 63 3 w lo hi A n c (lnCells ls)
def MadeL (n : Nat) (ls : List Ln) (w : World) (e : Ending) (w' : World) : Prop :=
  ∃ A c, e = .returned (.slice A n c) ∧ OwnL w' w.heap.size w'.heap.size A n c ls ∧ Below w.heap.size w w'
theorem lnlen_of_rd {w : World} {B n : Nat} {A : Option Addr} {ls : List Ln} (h : Rd w B 3 A n (lnCells ls)) : ls.length = n := by have := h.1; rw [lnCells_len] at this; omega
set_option maxHeartbeats 1000000 in
set_option maxRecDepth 100000 in
theorem toLineS_any (A : Option Addr) (n c : Nat) (ls : List Ln) (w : World) (hr : Rd w w.heap.size 3 A n (lnCells ls)) (hn : n ≤ 1099511627776) :
    Calls Try.prog 14 #[.slice A n c] w (MadeL n ls w) := by
  obtain ⟨i0, hi0, hz0, hz1, hz2⟩ := info_parts info_Line
  have hl := lnlen_of_rd hr
  go_enter Try.func14, Try.ntmps14
  go_wp2_with (at_make; refine wpList_make_full _ rfl _ _ 25 rfl w.heap.size 63 i0 (.agg #[.int .i64 0, .int .i64 0, .int .i64 0]) 3 Try.underlying25 hi0 hz0 hz1 _ _ _ _ n rfl rfl rfl rfl (by rw [hz2]; omega) (by unfold maxLen; omega) (Nat.le_refl _) ?_; intro w1 hown1 hg1)
  have hb1 : Below w.heap.size w w1 := (Below.refl _ _).grown hg1 (Nat.le_refl _) (by simp)
  have hs1 : w.heap.size < w1.heap.size := (hown1.lt w.heap.size rfl).2
  clear hg1
  go_loopw [4] (fun vi wr => ∃ (k : Nat) (xs : List Value), k ≤ n ∧ vi = .int .i64 (k : Int) ∧ Own 63 3 wr w.heap.size w1.heap.size (some ⟨w.heap.size, 0, none⟩) n n xs ∧ (∀ j, j < k * 3 → xs[j]? = (lnCells ls)[j]?) ∧ Below w.heap.size w wr) (fun vi _ => n - (intOf vi).toNat)
  case atStart => exact ⟨0, _, Nat.zero_le _, rfl, ⟨hown1, fun j hj => (hown1.lt j hj).2, Nat.le_refl _⟩, fun j hj => absurd hj (by omega), hb1⟩
  case round =>
    obtain ⟨k, xs, hk, rfl, hown, hx, hb⟩ := hrel
    have HX := Lib.hid hx
    clear hx
    by_cases hlt : k < n
    · obtain ⟨b, off, rfl, hbB, hcell⟩ := hr.form (by omega)
      obtain ⟨g0, g1, g2⟩ := lnCells_get ls k (by omega)
      generalize ls[k].k = x0 at g0
      generalize ls[k].c = x1 at g1
      generalize ls[k].a = x2 at g2
      have c0 := (hb.cell (p := ⟨b, off + (k * 3), none⟩) hbB).trans (hcell _ _ g0)
      have c1 := (hb.cell (p := ⟨b, off + (k * 3 + 1), none⟩) hbB).trans (hcell _ _ g1)
      have c2 := (hb.cell (p := ⟨b, off + (k * 3 + 2), none⟩) hbB).trans (hcell _ _ g2)
      rw [← Nat.add_assoc] at c1 c2
      have hlx : xs.length = n * 3 := hown.len
      have HG0 := Lib.hid g0
      have HG1 := Lib.hid g1
      have HG2 := Lib.hid g2
      have HC := Lib.hid hcell
      have hz := hb.size
      clear hcell g0 g1 g2 hl
      go_wp2_with fail
      refine (toLine_any x0 x1 x2 wr).mono ?_
      rintro e w2 ⟨rfl, hb2⟩
      have hown2 := hown.keep (Eff.of hb2) (.inr (.inr (Nat.le_refl _)))
      have d0 : w2.cell? ⟨w.heap.size, k * 3, none⟩ = some (xs[k * 3]'(by omega)) := by rw [hown2.row.cellAt (k * 3) (by omega), List.getElem?_eq_getElem]
      have d1 : w2.cell? ⟨w.heap.size, k * 3 + 1, none⟩ = some (xs[k * 3 + 1]'(by omega)) := by rw [hown2.row.cellAt (k * 3 + 1) (by omega), List.getElem?_eq_getElem]
      have d2 : w2.cell? ⟨w.heap.size, k * 3 + 2, none⟩ = some (xs[k * 3 + 2]'(by omega)) := by rw [hown2.row.cellAt (k * 3 + 2) (by omega), List.getElem?_eq_getElem]
      have f0 := hown2.row.frozenAt (k * 3)
      have f1 := hown2.row.frozenAt (k * 3 + 1)
      have f2 := hown2.row.frozenAt (k * 3 + 2)
      generalize xs[k * 3]'(by omega) = y0 at d0
      generalize xs[k * 3 + 1]'(by omega) = y1 at d1
      generalize xs[k * 3 + 2]'(by omega) = y2 at d2
      go_wp2
      go_roundw
      case rel =>
        refine ⟨k + 1, ((xs.set (k * 3) (.int .i64 x0)).set (k * 3 + 1) (.int .i64 x1)).set (k * 3 + 2) (.int .i64 x2), by omega, by go_num, ((((hown2.stored (k * 3) _).1.stored (k * 3 + 1) _).1).stored (k * 3 + 2) _).1, fun j hj => ?_, (((hb.trans (hb2.mono hz)).setCell (Nat.le_refl _) _).setCell (Nat.le_refl _) _).setCell (Nat.le_refl _) _⟩
        by_cases h2 : j = k * 3 + 2
        · subst h2; rw [List.getElem?_set_self (by simp; omega), HG2.out]
        · rw [List.getElem?_set_ne (by omega)]
          by_cases h1 : j = k * 3 + 1
          · subst h1; rw [List.getElem?_set_self (by simp; omega), HG1.out]
          · rw [List.getElem?_set_ne (by omega)]
            by_cases h0 : j = k * 3
            · subst h0; rw [List.getElem?_set_self (by omega), HG0.out]
            · rw [List.getElem?_set_ne (by omega)]
              exact HX.out j (by omega)
      case measure => simp [intOf]; omega
    · have hge : k = n := by omega
      subst hge
      go_wp2
      go_ret
      have hxs : xs = lnCells ls := by
        apply List.ext_getElem?
        intro j
        by_cases hj : j < k * 3
        · exact HX.out j hj
        · rw [List.getElem?_eq_none (by have := hown.len; omega), List.getElem?_eq_none (by rw [lnCells_len]; omega)]
      subst hxs
      exact ⟨_, _, rfl, hown.wide (Nat.le_refl _) hown.le (Nat.le_refl _), hb⟩
end Go.Proofs.Ytgjphejmppehjaa
