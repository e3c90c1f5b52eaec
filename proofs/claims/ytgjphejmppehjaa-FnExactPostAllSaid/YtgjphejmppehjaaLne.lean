/- Slices of lines held against each other, counted, marked. -/
import Derived.Test.YtgjphejmppehjaaLns
import Derived.Deep.RegionHeld3
namespace Go.Proofs.Ytgjphejmppehjaa
open Go.RowKit
theorem cell_kept {B : Nat} {w w' : World} {p : Addr} {u : Value} (hb : Below B w w') (h : w.cell? p = some u) (hp : p.block < B) : w'.cell? p = some u := (hb.cell hp).trans h
theorem eqAcc_same (k c : Int) (w : World) : Calls Try.prog 65 #[.agg #[.int .i64 k, .int .i64 c], .agg #[.int .i64 k, .int .i64 c]] w fun e w' => e = .returned (.bool true) ∧ Below w.heap.size w w' := by
  have e0 : (k != k) = false := by simp
  have e1 : (c != c) = false := by simp
  go_enter Try.func65, Try.ntmps65
  go_wp2
  go_ret
  exact ⟨rfl, ((Below.refl _ _).alloc (Nat.le_refl _) _).alloc (by simp) _⟩
set_option maxHeartbeats 1000000 in
theorem eqLine_same (k c a : Int) (W : World) : Calls Try.prog 52 #[.agg #[.int .i64 k, .int .i64 c, .int .i64 a], .agg #[.int .i64 k, .int .i64 c, .int .i64 a]] W fun e w' => e = .returned (.bool true) ∧ Below W.heap.size W w' := by
  have e0 : (a != a) = false := by simp
  go_enter Try.func52, Try.ntmps52
  go_wp2_with (go_at_call 65; refine (eqAcc_same k c _).mono ?_; rintro e w1 ⟨rfl, hb1⟩; have hz1 := hb1.size; (try simp at hz1); have hk0 := fun o => hb1.cell (p := ⟨W.heap.size, o, none⟩) (by first | omega | (simp; omega) | (simp; done)); have hf0 := fun o => hb1.frozen (p := ⟨W.heap.size, o, none⟩) (by first | omega | (simp; omega) | (simp; done)); have hk1 := fun o => hb1.cell (p := ⟨W.heap.size + 1, o, none⟩) (by first | omega | (simp; omega) | (simp; done)); have hf1 := fun o => hb1.frozen (p := ⟨W.heap.size + 1, o, none⟩) (by first | omega | (simp; omega) | (simp; done)))
  go_ret
  exact ⟨rfl, (((Below.refl _ _).alloc (Nat.le_refl _) _).alloc (by simp) _).trans (hb1.mono (by simp; omega))⟩
set_option maxHeartbeats 1000000 in
set_option maxRecDepth 100000 in
theorem eqLineS_same (A : Option Addr) (n c : Nat) (A' : Option Addr) (n' c' : Nat) (ls : List Ln) (w : World) (hr : Rd w w.heap.size 3 A n (lnCells ls)) (hr' : Rd w w.heap.size 3 A' n' (lnCells ls)) (hn : n ≤ 1099511627776) :
    Calls Try.prog 16 #[.slice A n c, .slice A' n' c'] w fun e w' => e = .returned (.bool true) ∧ Below w.heap.size w w' := by
  have hl := lnlen_of_rd hr
  have hl' := lnlen_of_rd hr'
  obtain rfl : n' = n := by omega
  clear hl'
  have hnn : ((n' : Int) != (n' : Int)) = false := by simp
  have HL := Lib.hid hl
  clear hl
  go_enter Try.func16, Try.ntmps16
  go_wp2
  go_loopw [5] (fun vi wr => ∃ k : Nat, k ≤ n' ∧ vi = .int .i64 (k : Int) ∧ Below w.heap.size w wr) (fun vi _ => n' - (intOf vi).toNat)
  case atStart => exact ⟨0, Nat.zero_le _, rfl, Below.refl _ _⟩
  case round =>
    obtain ⟨k, hk, rfl, hb⟩ := hrel
    by_cases hlt : k < n'
    · obtain ⟨b, off, rfl, hbB, hcell⟩ := (hr.below hb (Nat.le_refl _)).form (by omega)
      obtain ⟨b', off', rfl, hbB', hcell'⟩ := (hr'.below hb (Nat.le_refl _)).form (by omega)
      have hkl : k < ls.length := by have := HL.out; omega
      obtain ⟨g0, g1, g2⟩ := lnCells_get ls k hkl
      generalize ls[k].k = x0 at g0
      generalize ls[k].c = x1 at g1
      generalize ls[k].a = x2 at g2
      have c0 := hcell _ _ g0
      have c1 := hcell _ _ g1
      have c2 := hcell _ _ g2
      rw [← Nat.add_assoc] at c1 c2
      have d0 := hcell' _ _ g0
      have d1 := hcell' _ _ g1
      have d2 := hcell' _ _ g2
      rw [← Nat.add_assoc] at d1 d2
      have hz := hb.size
      clear hcell hcell' g0 g1 g2 hkl
      have i0 : (0 : Int) ≤ (k : Int) := by omega
      have i1 : (k : Int) < (n' : Int) := by omega
      go_wp2
      go_region_held3 (fun w' => w'.cell? ⟨b, off + k * 3, none⟩ = some (.int .i64 x0) ∧ w'.cell? ⟨b, off + k * 3 + 1, none⟩ = some (.int .i64 x1) ∧ w'.cell? ⟨b, off + k * 3 + 2, none⟩ = some (.int .i64 x2) ∧ w'.cell? ⟨b', off' + k * 3, none⟩ = some (.int .i64 x0) ∧ w'.cell? ⟨b', off' + k * 3 + 1, none⟩ = some (.int .i64 x1) ∧ w'.cell? ⟨b', off' + k * 3 + 2, none⟩ = some (.int .i64 x2)) ((go_split_ands; (repeat' apply And.intro) <;> (first | assumption | exact cell_kept (by assumption) (by assumption) (by first | omega | (simp; done) | (simp; omega))))) (first | (go_at_call 52; refine (eqLine_same x0 x1 x2 _).mono ?_; rintro e w2 ⟨rfl, hb2⟩))
      go_wp2
      go_roundw
      case rel => exact ⟨k + 1, by omega, by go_num, hb.drew.trans (hb2.mono hz)⟩
      case measure => simp [intOf]; omega
    · have hge : k = n' := by omega
      subst hge
      go_wp2
      go_ret
      exact ⟨rfl, hb⟩
theorem szLineS_any (A : Option Addr) (n c : Nat) (left : Int) (hn : n ≤ 9223372036854775807) (hl : -1 ≤ left ∧ left ≤ 4611686018427387904) (w : World) :
    Calls Try.prog 12 #[.slice A n c, .int .i64 left] w fun e w' => e = .returned (.int .i64 (if left - (n : Int) < 0 then -1 else left - (n : Int))) ∧ w = w' := by
  obtain ⟨hl1, hl2⟩ := hl
  by_cases h : left - (n : Int) < 0
  · rw [if_pos h]
    go_enter Try.func12, Try.ntmps12
    go_wp2
    go_ret
    exact ⟨rfl, rfl⟩
  · rw [if_neg h]
    have h' : 0 ≤ left - (n : Int) := by omega
    clear h
    go_enter Try.func12, Try.ntmps12
    go_wp2
    go_ret
    exact ⟨rfl, rfl⟩
/-- The marks from k on, three a line. -/
def marksL (k n : Nat) : List Ln := (List.range n).map fun i => ⟨((k + i * 3 : Nat) : Int), ((k + i * 3 + 1 : Nat) : Int), ((k + i * 3 + 2 : Nat) : Int)⟩
theorem marksL_len (k n : Nat) : (marksL k n).length = n := by simp [marksL]
theorem marksL_get (k n i : Nat) (h : i < n) : (lnCells (marksL k n))[i * 3]? = some (.int .i64 ((k : Int) + (i : Int) * 3)) ∧ (lnCells (marksL k n))[i * 3 + 1]? = some (.int .i64 ((k : Int) + (i : Int) * 3 + 1)) ∧ (lnCells (marksL k n))[i * 3 + 2]? = some (.int .i64 ((k : Int) + (i : Int) * 3 + 2)) := by
  have := lnCells_get (marksL k n) i (by rw [marksL_len]; exact h)
  simpa [marksL] using this
/-- What markLineS leaves. -/
def MarkedL (A : Option Addr) (n c k lo hi : Nat) (w : World) (e : Ending) (w' : World) : Prop :=
  e = .returned (.int .i64 ((k + n * 3 : Nat) : Int)) ∧ OwnL w' lo hi A n c (marksL k n) ∧ Eff lo hi w w'
set_option maxHeartbeats 1000000 in
set_option maxRecDepth 100000 in
theorem markLineS_any (A : Option Addr) (n c : Nat) (ls : List Ln) (lo hi k0 : Nat) (w : World) (ho : OwnL w lo hi A n c ls) (hk0 : k0 ≤ 4611686018427387904) (hn : n ≤ 1099511627776) :
    Calls Try.prog 56 #[.slice A n c, .int .i64 (k0 : Int)] w (MarkedL A n c k0 lo hi w) := by
  have hl := Own.len ho
  go_enter Try.func56, Try.ntmps56
  go_wp2
  go_loopw [1, 5] (fun vk vi wr => ∃ (k : Nat) (xs : List Value), k ≤ n ∧ vk = .int .i64 ((k0 : Int) + (k : Int) * 3) ∧ vi = .int .i64 (k : Int) ∧ Own 63 3 wr lo hi A n c xs ∧ (∀ j, j < k * 3 → xs[j]? = (lnCells (marksL k0 n))[j]?) ∧ Eff lo hi w wr) (fun _ vi _ => n - (intOf vi).toNat)
  case atStart => exact ⟨0, _, Nat.zero_le _, by go_num, rfl, ho, fun j hj => absurd hj (by omega), Eff.refl _ _ _⟩
  case round =>
    obtain ⟨k, xs, hk, rfl, rfl, hown, hx, he⟩ := hrel
    have HX := Lib.hid hx
    clear hx
    by_cases hlt : k < n
    · obtain ⟨g, rfl, hg1, hg2, hcell, hfr⟩ := hown.form (by omega)
      have hlx : xs.length = n * 3 := hown.len
      have d0 : wr.cell? ⟨g, k * 3, none⟩ = some (xs[k * 3]'(by omega)) := by rw [hcell (k * 3) (by omega), List.getElem?_eq_getElem]
      have d1 : wr.cell? ⟨g, k * 3 + 1, none⟩ = some (xs[k * 3 + 1]'(by omega)) := by rw [hcell (k * 3 + 1) (by omega), List.getElem?_eq_getElem]
      have d2 : wr.cell? ⟨g, k * 3 + 2, none⟩ = some (xs[k * 3 + 2]'(by omega)) := by rw [hcell (k * 3 + 2) (by omega), List.getElem?_eq_getElem]
      have f0 := hfr (k * 3)
      have f1 := hfr (k * 3 + 1)
      have f2 := hfr (k * 3 + 2)
      have HLX := Lib.hid hlx
      clear hcell hfr
      generalize xs[k * 3]'(by omega) = y0 at d0
      generalize xs[k * 3 + 1]'(by omega) = y1 at d1
      generalize xs[k * 3 + 2]'(by omega) = y2 at d2
      clear hlx hl
      go_wp2
      go_roundw
      case rel =>
        obtain ⟨o0, e0⟩ := hown.stored (k * 3) (.int .i64 ((k0 : Int) + (k : Int) * 3))
        obtain ⟨o1, e1⟩ := o0.stored (k * 3 + 1) (.int .i64 ((k0 : Int) + (k : Int) * 3 + 1))
        obtain ⟨o2, e2⟩ := o1.stored (k * 3 + 2) (.int .i64 ((k0 : Int) + (k : Int) * 3 + 2))
        obtain ⟨m0, m1, m2⟩ := marksL_get k0 n k hlt
        have hlx := HLX.out
        refine ⟨k + 1, _, by omega, by go_num, by go_num, by first | exact o2 | (simp only [Int.add_assoc] at o2 ⊢; exact o2), fun j hj => ?_, ((he.trans e0).trans e1).trans e2⟩
        by_cases h2 : j = k * 3 + 2
        · subst h2; rw [List.getElem?_set_self (by simp; omega), m2]
        · rw [List.getElem?_set_ne (by omega)]
          by_cases h1 : j = k * 3 + 1
          · subst h1; rw [List.getElem?_set_self (by simp; omega), m1]
          · rw [List.getElem?_set_ne (by omega)]
            by_cases h0 : j = k * 3
            · subst h0; rw [List.getElem?_set_self (by omega), m0]
            · rw [List.getElem?_set_ne (by omega)]
              exact HX.out j (by omega)
      case measure => simp [intOf]; omega
    · have hge : k = n := by omega
      subst hge
      go_wp2
      go_ret
      have hxs : xs = lnCells (marksL k0 k) := by
        apply List.ext_getElem?
        intro j
        by_cases hj : j < k * 3
        · exact HX.out j hj
        · rw [List.getElem?_eq_none (by have := hown.len; omega), List.getElem?_eq_none (by rw [lnCells_len, marksL_len]; omega)]
      subst hxs
      exact ⟨by simp, hown, he⟩
set_option maxHeartbeats 1000000 in
set_option maxRecDepth 100000 in
theorem heldLineS_yes (A : Option Addr) (n c k0 : Nat) (w : World) (hr : Rd w w.heap.size 3 A n (lnCells (marksL k0 n))) (hk0 : k0 ≤ 4611686018427387904) (hn : n ≤ 1099511627776) :
    Calls Try.prog 57 #[.slice A n c, .int .i64 (k0 : Int)] w fun e w' => e = .returned (.int .i64 ((k0 + n * 3 : Nat) : Int)) ∧ Below w.heap.size w w' := by
  go_enter Try.func57, Try.ntmps57
  go_wp2
  go_loop [1, 5] (fun vk vi => ∃ (k : Nat), k ≤ n ∧ vk = .int .i64 ((k0 : Int) + (k : Int) * 3) ∧ vi = .int .i64 (k : Int)) (fun _ vi => n - (intOf vi).toNat)
  case atStart => exact ⟨0, Nat.zero_le _, by go_num, rfl⟩
  case round =>
    obtain ⟨k, hk, rfl, rfl⟩ := hrel
    by_cases hlt : k < n
    · obtain ⟨b, off, rfl, hbB, hcell⟩ := hr.form (by omega)
      obtain ⟨m0, m1, m2⟩ := marksL_get k0 n k hlt
      have c0 := hcell _ _ m0
      have c1 := hcell _ _ m1
      have c2 := hcell _ _ m2
      rw [← Nat.add_assoc] at c1 c2
      clear hcell m0 m1 m2
      have n0 : (((k0 : Int) + (k : Int) * 3) != ((k0 : Int) + (k : Int) * 3)) = false := by simp
      have n1 : (((k0 : Int) + (k : Int) * 3 + 1) != ((k0 : Int) + (k : Int) * 3 + 1)) = false := by simp
      have n2 : (((k0 : Int) + (k : Int) * 3 + 2) != ((k0 : Int) + (k : Int) * 3 + 1 + 1)) = false := by simp; omega
      go_wp2
      go_round
      case rel => exact ⟨k + 1, by omega, by go_num, by go_num⟩
      case measure => simp [intOf]; omega
    · have hge : k = n := by omega
      subst hge
      go_wp2
      go_ret
      exact ⟨by simp, Below.refl _ _⟩
end Go.Proofs.Ytgjphejmppehjaa
