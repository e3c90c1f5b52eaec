/- Balance and Worth, in the program and in the reference. -/
import Derived.Test.YtgjphejmppehjaaLedO
namespace Go.Proofs.Ytgjphejmppehjaa
open Go.RowKit
theorem ret_intB {a b : Int} (h : a = b) : Ending.returned (.int .i64 a) = .returned (.int .i64 b) := by rw [h]
def balA (k c : Int) : List Ln → Int
  | [] => 0
  | x :: t => if x.k = k ∧ x.c = c then x.a else balA k c t
noncomputable def bal (q : Int) (ls : List Ln) (k c : Int) : Int := if ledOk q ls && accOk k c then balA k c ls else 0
noncomputable def wor (q : Int) (ls : List Ln) : Int := if ledOk q ls then worth ls else 0
theorem balA_drop {ls : List Ln} {i : Nat} {x0 x1 x2 k c : Int} (hx : lnAt ls i = ⟨x0, x1, x2⟩) (h : i < ls.length) : balA k c (ls.drop i) = if x0 = k ∧ x1 = c then x2 else balA k c (ls.drop (i + 1)) := by
  have e : ls[i] = ⟨x0, x1, x2⟩ := by rw [← hx]; simp [lnAt, List.getD, h]
  rw [List.drop_eq_getElem_cons h, e]
  rfl
theorem ledOk_lines {q : Int} {ls : List Ln} (h : ledOk q ls = true) : okTo ls ls.length := by
  simp only [ledOk, Bool.and_eq_true] at h
  exact (linesOk_iff.1 h.2).1
set_option maxHeartbeats 1000000 in
set_option maxRecDepth 100000 in
theorem impl_Balance (q : Int) (A : Option Addr) (n c : Nat) (ls : List Ln) (k ch : Int) (W : World) (hr : Rd W W.heap.size 3 A n (lnCells ls)) (hn : n ≤ 1099511627776) :
    Calls Try.prog 29 #[.agg #[.int .i64 q, .slice A n c], .agg #[.int .i64 k, .int .i64 ch]] W fun e w' => e = .returned (.int .i64 (bal q ls k ch)) ∧ Below W.heap.size W w' := by
  have hl := lnlen_of_rd hr
  have HL := Lib.hid hl
  clear hl
  rcases hL : ledOk q ls with _ | _
  · rw [show bal q ls k ch = 0 by simp [bal, hL]]
    go_enter Try.func29, Try.ntmps29
    go_wp2_with (first | (go_at_call 20; refine (impl_LedgerOk q A n c ls _ (((hr.alloc (Nat.le_refl _) _).alloc (by simp) _).more (by simp; omega)) hn).mono ?_; rintro e w1 ⟨rfl, hb1⟩; rw [hL]; have hk1 := fun o => hb1.cell (p := ⟨W.heap.size + 1, o, none⟩) (by simp)))
    go_ret
    exact ⟨rfl, (((Below.refl _ _).alloc (Nat.le_refl _) _).alloc (by simp) _).trans (hb1.mono (by simp; omega))⟩
  rcases hA : accOk k ch with _ | _
  · rw [show bal q ls k ch = 0 by simp [bal, hL, hA]]
    go_enter Try.func29, Try.ntmps29
    go_wp2_with (first | (go_at_call 20; refine (impl_LedgerOk q A n c ls _ (((hr.alloc (Nat.le_refl _) _).alloc (by simp) _).more (by simp; omega)) hn).mono ?_; rintro e w1 ⟨rfl, hb1⟩; rw [hL]; have hk1 := fun o => hb1.cell (p := ⟨W.heap.size + 1, o, none⟩) (by simp)) | (go_at_call 49; refine (impl_AccOk k ch _).mono ?_; rintro e w2 ⟨rfl, hb2⟩; rw [hA]))
    go_ret
    exact ⟨rfl, ((((Below.refl _ _).alloc (Nat.le_refl _) _).alloc (by simp) _).trans (hb1.mono (by simp; omega))).trans (hb2.mono (by have := hb1.size; simp at this; omega))⟩
  obtain ⟨r, hR⟩ : ∃ r, balA k ch ls = r := ⟨_, rfl⟩
  rw [show bal q ls k ch = r by simp [bal, hL, hA, hR]]
  have HR := Lib.hid hR
  clear hR
  go_enter Try.func29, Try.ntmps29
  go_wp2_with fail
  have he1 : Eff 0 0 W (W.alloc (.cells #[.int .i64 q, .slice A n c] 34)) := Eff.alloc _ _
  have hs1 : (W.alloc (.cells #[.int .i64 q, .slice A n c] 34)).heap.size = W.heap.size + 1 := (by simp)
  have aL_0 : (W.alloc (.cells #[.int .i64 q, .slice A n c] 34)).cell? ⟨W.heap.size, 0, none⟩ = some (.int .i64 q) := var_cell _ _ _ _ _ rfl
  have aL_1 : (W.alloc (.cells #[.int .i64 q, .slice A n c] 34)).cell? ⟨W.heap.size, 1, none⟩ = some (.slice A n c) := var_cell _ _ _ _ _ rfl
  generalize (W.alloc (.cells #[.int .i64 q, .slice A n c] 34)) = w1 at *
  have hz1 : W.heap.size ≤ w1.heap.size := he1.size
  have b1 : Below W.heap.size W w1 := he1.below (Nat.le_refl _) (by omega)
  replace hr := (hr.below (he1.below (B := W.heap.size) (by omega) (by omega)) (Nat.le_refl _))
  have aL_l : W.heap.size < w1.heap.size := (by omega)
  have he2 : Eff 0 0 w1 (w1.alloc (.cells #[.int .i64 k, .int .i64 ch] 50)) := Eff.alloc _ _
  have hs2 : (w1.alloc (.cells #[.int .i64 k, .int .i64 ch] 50)).heap.size = w1.heap.size + 1 := (by simp)
  have aA_0 : (w1.alloc (.cells #[.int .i64 k, .int .i64 ch] 50)).cell? ⟨w1.heap.size, 0, none⟩ = some (.int .i64 k) := var_cell _ _ _ _ _ rfl
  have aA_1 : (w1.alloc (.cells #[.int .i64 k, .int .i64 ch] 50)).cell? ⟨w1.heap.size, 1, none⟩ = some (.int .i64 ch) := var_cell _ _ _ _ _ rfl
  generalize (w1.alloc (.cells #[.int .i64 k, .int .i64 ch] 50)) = w2 at *
  have hz2 : w1.heap.size ≤ w2.heap.size := he2.size
  have b2 : Below W.heap.size W w2 := b1.trans (he2.below b1.size (by omega))
  replace hr := (hr.below (he2.below (B := W.heap.size) (by omega) (by omega)) (Nat.le_refl _))
  replace aL_0 := he2.cell aL_0 (by simp only; omega)
  replace aL_1 := he2.cell aL_1 (by simp only; omega)
  replace aL_l := Nat.lt_of_lt_of_le aL_l hz2
  rw [hs1] at aA_0
  rw [hs1] at aA_1
  have aA_l : W.heap.size + 1 < w2.heap.size := (by omega)
  refine (impl_LedgerOk q A n c ls w2 (hr.more (by omega)) hn).mono ?_
  rintro e w3 ⟨rfl, hb⟩
  have he3 : Eff 0 0 w2 w3 := Eff.of hb
  have hz3 : w2.heap.size ≤ w3.heap.size := he3.size
  have b3 : Below W.heap.size W w3 := b2.trans (he3.below b2.size (by omega))
  replace hr := (hr.below (he3.below (B := W.heap.size) (by omega) (by omega)) (Nat.le_refl _))
  replace aL_0 := he3.cell aL_0 (by simp only; omega)
  replace aL_1 := he3.cell aL_1 (by simp only; omega)
  replace aA_0 := he3.cell aA_0 (by simp only; omega)
  replace aA_1 := he3.cell aA_1 (by simp only; omega)
  replace aL_l := Nat.lt_of_lt_of_le aL_l hz3
  replace aA_l := Nat.lt_of_lt_of_le aA_l hz3
  clear hb
  rw [hL]
  go_wp2_with fail
  refine (impl_AccOk k ch w3).mono ?_
  rintro e w4 ⟨rfl, hb⟩
  have he4 : Eff 0 0 w3 w4 := Eff.of hb
  have hz4 : w3.heap.size ≤ w4.heap.size := he4.size
  have b4 : Below W.heap.size W w4 := b3.trans (he4.below b3.size (by omega))
  replace hr := (hr.below (he4.below (B := W.heap.size) (by omega) (by omega)) (Nat.le_refl _))
  replace aL_0 := he4.cell aL_0 (by simp only; omega)
  replace aL_1 := he4.cell aL_1 (by simp only; omega)
  replace aA_0 := he4.cell aA_0 (by simp only; omega)
  replace aA_1 := he4.cell aA_1 (by simp only; omega)
  replace aL_l := Nat.lt_of_lt_of_le aL_l hz4
  replace aA_l := Nat.lt_of_lt_of_le aA_l hz4
  clear hb
  rw [hA]
  go_wp2
  go_loopw [18] (fun vi wr => ∃ i : Nat, i ≤ n ∧ vi = .int .i64 (i : Int) ∧ Hid (balA k ch (ls.drop i) = r) ∧ Below w4.heap.size w4 wr) (fun vi _ => n - (intOf vi).toNat)
  case atStart => exact ⟨0, Nat.zero_le _, rfl, by rw [List.drop_zero]; exact HR, Below.refl _ _⟩
  case round =>
    obtain ⟨i, hi, rfl, HB, hb⟩ := hrel
    by_cases hlt : i < n
    · skip
      obtain ⟨x0, x1, x2, hx⟩ : ∃ x0 x1 x2, lnAt ls i = ⟨x0, x1, x2⟩ := ⟨_, _, _, rfl⟩
      have HX := Lib.hid hx
      obtain ⟨b, off, rfl, hbB, hcell⟩ := (hr.below hb (by omega)).form (by omega)
      obtain ⟨g0, g1, g2⟩ := lnCells_at (k := i) hx (by have := HL.out; omega)
      have c0 := hcell _ _ g0
      have c1 := hcell _ _ g1
      have c2 := hcell _ _ g2
      rw [← Nat.add_assoc] at c1 c2
      have hz := hb.size
      have hbA := hb.alloc hz (.cells #[.int .i64 x0, .int .i64 x1, .int .i64 x2] 63)
      clear hcell g0 g1 g2 hx
      have i0 : (0 : Int) ≤ (i : Int) := by omega
      have i1 : (i : Int) < (n : Int) := by omega
      have k0 := (Eff.alloc wr (.cells #[.int .i64 x0, .int .i64 x1, .int .i64 x2] 63)).cell (cell_kept hb aA_0 aA_l) (by simp only; omega)
      have k1 := (Eff.alloc wr (.cells #[.int .i64 x0, .int .i64 x1, .int .i64 x2] 63)).cell (cell_kept hb aA_1 aA_l) (by simp only; omega)
      have HD := balA_drop (k := k) (c := ch) HX.out (by have := HL.out; omega)
      have HD' := Lib.hid HD
      clear HD
      by_cases hk : x0 = k
      · have hk1 : (x0 == k) = true := by simp; exact hk
        by_cases hc : x1 = ch
        · have hc1 : (x1 == ch) = true := by simp; exact hc
          have HE : Hid (x2 = r) := Lib.hid (by rw [← HB.out, HD'.out, if_pos ⟨hk, hc⟩])
          clear hk hc
          go_wp2
          go_ret
          exact ⟨ret_intB HE.out, b4.trans (hbA.mono (by omega))⟩
        · have hc1 : (x1 == ch) = false := by simp; exact hc
          have HE : Hid (balA k ch (ls.drop (i + 1)) = r) := Lib.hid (by rw [← HB.out, HD'.out, if_neg (fun h => hc h.2)])
          clear hk hc
          go_wp2
          go_roundw
          case rel => exact ⟨i + 1, by omega, by go_num, HE, hbA⟩
          case measure => simp [intOf]; omega
      · have hk1 : (x0 == k) = false := by simp; exact hk
        have HE : Hid (balA k ch (ls.drop (i + 1)) = r) := Lib.hid (by rw [← HB.out, HD'.out, if_neg (fun h => hk h.1)])
        clear hk
        go_wp2
        go_roundw
        case rel => exact ⟨i + 1, by omega, by go_num, HE, hbA⟩
        case measure => simp [intOf]; omega
    · have hge : i = n := by omega
      subst hge
      have HE : Hid ((0 : Int) = r) := Lib.hid (by rw [← HB.out, List.drop_of_length_le (by rw [HL.out]; exact Nat.le_refl _)]; rfl)
      go_wp2
      go_ret
      exact ⟨ret_intB HE.out, b4.trans (hb.mono (by omega))⟩
set_option maxHeartbeats 1000000 in
set_option maxRecDepth 100000 in
theorem spec_Balance (q : Int) (A : Option Addr) (n c : Nat) (ls : List Ln) (k ch : Int) (W : World) (hr : Rd W W.heap.size 3 A n (lnCells ls)) (hn : n ≤ 1099511627776) :
    Calls Try.prog 27 #[.agg #[.int .i64 q, .slice A n c], .agg #[.int .i64 k, .int .i64 ch]] W fun e w' => e = .returned (.int .i64 (bal q ls k ch)) ∧ Below W.heap.size W w' := by
  have hl := lnlen_of_rd hr
  have HL := Lib.hid hl
  clear hl
  rcases hL : ledOk q ls with _ | _
  · rw [show bal q ls k ch = 0 by simp [bal, hL]]
    go_enter Try.func27, Try.ntmps27
    go_wp2_with (first | (go_at_call 18; refine (spec_LedgerOk q A n c ls _ (((hr.alloc (Nat.le_refl _) _).alloc (by simp) _).more (by simp; omega)) hn).mono ?_; rintro e w1 ⟨rfl, hb1⟩; rw [hL]; have hk1 := fun o => hb1.cell (p := ⟨W.heap.size + 1, o, none⟩) (by simp)))
    go_ret
    exact ⟨rfl, (((Below.refl _ _).alloc (Nat.le_refl _) _).alloc (by simp) _).trans (hb1.mono (by simp; omega))⟩
  rcases hA : accOk k ch with _ | _
  · rw [show bal q ls k ch = 0 by simp [bal, hL, hA]]
    go_enter Try.func27, Try.ntmps27
    go_wp2_with (first | (go_at_call 18; refine (spec_LedgerOk q A n c ls _ (((hr.alloc (Nat.le_refl _) _).alloc (by simp) _).more (by simp; omega)) hn).mono ?_; rintro e w1 ⟨rfl, hb1⟩; rw [hL]; have hk1 := fun o => hb1.cell (p := ⟨W.heap.size + 1, o, none⟩) (by simp)) | (go_at_call 45; refine (spec_AccOk k ch _).mono ?_; rintro e w2 ⟨rfl, hb2⟩; rw [hA]))
    go_ret
    exact ⟨rfl, ((((Below.refl _ _).alloc (Nat.le_refl _) _).alloc (by simp) _).trans (hb1.mono (by simp; omega))).trans (hb2.mono (by have := hb1.size; simp at this; omega))⟩
  obtain ⟨r, hR⟩ : ∃ r, balA k ch ls = r := ⟨_, rfl⟩
  rw [show bal q ls k ch = r by simp [bal, hL, hA, hR]]
  have HR := Lib.hid hR
  clear hR
  go_enter Try.func27, Try.ntmps27
  go_wp2_with fail
  have he1 : Eff 0 0 W (W.alloc (.cells #[.int .i64 q, .slice A n c] 34)) := Eff.alloc _ _
  have hs1 : (W.alloc (.cells #[.int .i64 q, .slice A n c] 34)).heap.size = W.heap.size + 1 := (by simp)
  have aL_0 : (W.alloc (.cells #[.int .i64 q, .slice A n c] 34)).cell? ⟨W.heap.size, 0, none⟩ = some (.int .i64 q) := var_cell _ _ _ _ _ rfl
  have aL_1 : (W.alloc (.cells #[.int .i64 q, .slice A n c] 34)).cell? ⟨W.heap.size, 1, none⟩ = some (.slice A n c) := var_cell _ _ _ _ _ rfl
  generalize (W.alloc (.cells #[.int .i64 q, .slice A n c] 34)) = w1 at *
  have hz1 : W.heap.size ≤ w1.heap.size := he1.size
  have b1 : Below W.heap.size W w1 := he1.below (Nat.le_refl _) (by omega)
  replace hr := (hr.below (he1.below (B := W.heap.size) (by omega) (by omega)) (Nat.le_refl _))
  have aL_l : W.heap.size < w1.heap.size := (by omega)
  have he2 : Eff 0 0 w1 (w1.alloc (.cells #[.int .i64 k, .int .i64 ch] 50)) := Eff.alloc _ _
  have hs2 : (w1.alloc (.cells #[.int .i64 k, .int .i64 ch] 50)).heap.size = w1.heap.size + 1 := (by simp)
  have aA_0 : (w1.alloc (.cells #[.int .i64 k, .int .i64 ch] 50)).cell? ⟨w1.heap.size, 0, none⟩ = some (.int .i64 k) := var_cell _ _ _ _ _ rfl
  have aA_1 : (w1.alloc (.cells #[.int .i64 k, .int .i64 ch] 50)).cell? ⟨w1.heap.size, 1, none⟩ = some (.int .i64 ch) := var_cell _ _ _ _ _ rfl
  generalize (w1.alloc (.cells #[.int .i64 k, .int .i64 ch] 50)) = w2 at *
  have hz2 : w1.heap.size ≤ w2.heap.size := he2.size
  have b2 : Below W.heap.size W w2 := b1.trans (he2.below b1.size (by omega))
  replace hr := (hr.below (he2.below (B := W.heap.size) (by omega) (by omega)) (Nat.le_refl _))
  replace aL_0 := he2.cell aL_0 (by simp only; omega)
  replace aL_1 := he2.cell aL_1 (by simp only; omega)
  replace aL_l := Nat.lt_of_lt_of_le aL_l hz2
  rw [hs1] at aA_0
  rw [hs1] at aA_1
  have aA_l : W.heap.size + 1 < w2.heap.size := (by omega)
  refine (spec_LedgerOk q A n c ls w2 (hr.more (by omega)) hn).mono ?_
  rintro e w3 ⟨rfl, hb⟩
  have he3 : Eff 0 0 w2 w3 := Eff.of hb
  have hz3 : w2.heap.size ≤ w3.heap.size := he3.size
  have b3 : Below W.heap.size W w3 := b2.trans (he3.below b2.size (by omega))
  replace hr := (hr.below (he3.below (B := W.heap.size) (by omega) (by omega)) (Nat.le_refl _))
  replace aL_0 := he3.cell aL_0 (by simp only; omega)
  replace aL_1 := he3.cell aL_1 (by simp only; omega)
  replace aA_0 := he3.cell aA_0 (by simp only; omega)
  replace aA_1 := he3.cell aA_1 (by simp only; omega)
  replace aL_l := Nat.lt_of_lt_of_le aL_l hz3
  replace aA_l := Nat.lt_of_lt_of_le aA_l hz3
  clear hb
  rw [hL]
  go_wp2_with fail
  refine (spec_AccOk k ch w3).mono ?_
  rintro e w4 ⟨rfl, hb⟩
  have he4 : Eff 0 0 w3 w4 := Eff.of hb
  have hz4 : w3.heap.size ≤ w4.heap.size := he4.size
  have b4 : Below W.heap.size W w4 := b3.trans (he4.below b3.size (by omega))
  replace hr := (hr.below (he4.below (B := W.heap.size) (by omega) (by omega)) (Nat.le_refl _))
  replace aL_0 := he4.cell aL_0 (by simp only; omega)
  replace aL_1 := he4.cell aL_1 (by simp only; omega)
  replace aA_0 := he4.cell aA_0 (by simp only; omega)
  replace aA_1 := he4.cell aA_1 (by simp only; omega)
  replace aL_l := Nat.lt_of_lt_of_le aL_l hz4
  replace aA_l := Nat.lt_of_lt_of_le aA_l hz4
  clear hb
  rw [hA]
  go_wp2
  go_loopw [18] (fun vi wr => ∃ i : Nat, i ≤ n ∧ vi = .int .i64 (i : Int) ∧ Hid (balA k ch (ls.drop i) = r) ∧ Below w4.heap.size w4 wr) (fun vi _ => n - (intOf vi).toNat)
  case atStart => exact ⟨0, Nat.zero_le _, rfl, by rw [List.drop_zero]; exact HR, Below.refl _ _⟩
  case round =>
    obtain ⟨i, hi, rfl, HB, hb⟩ := hrel
    by_cases hlt : i < n
    · skip
      obtain ⟨x0, x1, x2, hx⟩ : ∃ x0 x1 x2, lnAt ls i = ⟨x0, x1, x2⟩ := ⟨_, _, _, rfl⟩
      have HX := Lib.hid hx
      obtain ⟨b, off, rfl, hbB, hcell⟩ := (hr.below hb (by omega)).form (by omega)
      obtain ⟨g0, g1, g2⟩ := lnCells_at (k := i) hx (by have := HL.out; omega)
      have c0 := hcell _ _ g0
      have c1 := hcell _ _ g1
      have c2 := hcell _ _ g2
      rw [← Nat.add_assoc] at c1 c2
      have hz := hb.size
      have hbA := hb.alloc hz (.cells #[.int .i64 x0, .int .i64 x1, .int .i64 x2] 63)
      clear hcell g0 g1 g2 hx
      have i0 : (0 : Int) ≤ (i : Int) := by omega
      have i1 : (i : Int) < (n : Int) := by omega
      have k0 := (Eff.alloc wr (.cells #[.int .i64 x0, .int .i64 x1, .int .i64 x2] 63)).cell (cell_kept hb aA_0 aA_l) (by simp only; omega)
      have k1 := (Eff.alloc wr (.cells #[.int .i64 x0, .int .i64 x1, .int .i64 x2] 63)).cell (cell_kept hb aA_1 aA_l) (by simp only; omega)
      have HD := balA_drop (k := k) (c := ch) HX.out (by have := HL.out; omega)
      have HD' := Lib.hid HD
      clear HD
      by_cases hk : x0 = k
      · have hk1 : (x0 == k) = true := by simp; exact hk
        by_cases hc : x1 = ch
        · have hc1 : (x1 == ch) = true := by simp; exact hc
          have HE : Hid (x2 = r) := Lib.hid (by rw [← HB.out, HD'.out, if_pos ⟨hk, hc⟩])
          clear hk hc
          go_wp2
          go_ret
          exact ⟨ret_intB HE.out, b4.trans (hbA.mono (by omega))⟩
        · have hc1 : (x1 == ch) = false := by simp; exact hc
          have HE : Hid (balA k ch (ls.drop (i + 1)) = r) := Lib.hid (by rw [← HB.out, HD'.out, if_neg (fun h => hc h.2)])
          clear hk hc
          go_wp2
          go_roundw
          case rel => exact ⟨i + 1, by omega, by go_num, HE, hbA⟩
          case measure => simp [intOf]; omega
      · have hk1 : (x0 == k) = false := by simp; exact hk
        have HE : Hid (balA k ch (ls.drop (i + 1)) = r) := Lib.hid (by rw [← HB.out, HD'.out, if_neg (fun h => hk h.1)])
        clear hk
        go_wp2
        go_roundw
        case rel => exact ⟨i + 1, by omega, by go_num, HE, hbA⟩
        case measure => simp [intOf]; omega
    · have hge : i = n := by omega
      subst hge
      have HE : Hid ((0 : Int) = r) := Lib.hid (by rw [← HB.out, List.drop_of_length_le (by rw [HL.out]; exact Nat.le_refl _)]; rfl)
      go_wp2
      go_ret
      exact ⟨ret_intB HE.out, b4.trans (hb.mono (by omega))⟩
set_option maxHeartbeats 1000000 in
set_option maxRecDepth 100000 in
theorem impl_Worth (q : Int) (A : Option Addr) (n c : Nat) (ls : List Ln) (W : World) (hr : Rd W W.heap.size 3 A n (lnCells ls)) (hn : n ≤ 1099511627776) :
    Calls Try.prog 31 #[.agg #[.int .i64 q, .slice A n c]] W fun e w' => e = .returned (.int .i64 (wor q ls)) ∧ Below W.heap.size W w' := by
  have hl := lnlen_of_rd hr
  have HL := Lib.hid hl
  clear hl
  rcases hL : ledOk q ls with _ | _
  · rw [show wor q ls = 0 by simp [wor, hL]]
    go_enter Try.func31, Try.ntmps31
    go_wp2_with (first | (go_at_call 20; refine (impl_LedgerOk q A n c ls _ ((hr.alloc (Nat.le_refl _) _).more (by simp)) hn).mono ?_; rintro e w1 ⟨rfl, hb1⟩; rw [hL]))
    go_ret
    exact ⟨rfl, ((Below.refl _ _).alloc (Nat.le_refl _) _).trans (hb1.mono (by simp))⟩
  have hO := ledOk_lines hL
  have HO := Lib.hid hO
  have hn302 := okTo_le hO
  rw [HL.out] at hn302
  clear hO
  obtain ⟨r, hR⟩ : ∃ r, worth ls = r := ⟨_, rfl⟩
  rw [show wor q ls = r by simp [wor, hL, hR]]
  have HR := Lib.hid hR
  clear hR
  go_enter Try.func31, Try.ntmps31
  go_wp2_with fail
  have he1 : Eff 0 0 W (W.alloc (.cells #[.int .i64 q, .slice A n c] 34)) := Eff.alloc _ _
  have hs1 : (W.alloc (.cells #[.int .i64 q, .slice A n c] 34)).heap.size = W.heap.size + 1 := (by simp)
  have aL_0 : (W.alloc (.cells #[.int .i64 q, .slice A n c] 34)).cell? ⟨W.heap.size, 0, none⟩ = some (.int .i64 q) := var_cell _ _ _ _ _ rfl
  have aL_1 : (W.alloc (.cells #[.int .i64 q, .slice A n c] 34)).cell? ⟨W.heap.size, 1, none⟩ = some (.slice A n c) := var_cell _ _ _ _ _ rfl
  generalize (W.alloc (.cells #[.int .i64 q, .slice A n c] 34)) = w1 at *
  have hz1 : W.heap.size ≤ w1.heap.size := he1.size
  have b1 : Below W.heap.size W w1 := he1.below (Nat.le_refl _) (by omega)
  replace hr := (hr.below (he1.below (B := W.heap.size) (by omega) (by omega)) (Nat.le_refl _))
  have aL_l : W.heap.size < w1.heap.size := (by omega)
  refine (impl_LedgerOk q A n c ls w1 (hr.more (by omega)) hn).mono ?_
  rintro e w2 ⟨rfl, hb⟩
  have he2 : Eff 0 0 w1 w2 := Eff.of hb
  have hz2 : w1.heap.size ≤ w2.heap.size := he2.size
  have b2 : Below W.heap.size W w2 := b1.trans (he2.below b1.size (by omega))
  replace hr := (hr.below (he2.below (B := W.heap.size) (by omega) (by omega)) (Nat.le_refl _))
  replace aL_0 := he2.cell aL_0 (by simp only; omega)
  replace aL_1 := he2.cell aL_1 (by simp only; omega)
  replace aL_l := Nat.lt_of_lt_of_le aL_l hz2
  clear hb
  rw [hL]
  go_wp2
  go_loopw [3, 12] (fun vs vi wr => ∃ (i : Nat) (s : Int), i ≤ n ∧ vs = .int .i64 s ∧ vi = .int .i64 (i : Int) ∧ Hid (worth (ls.take i) = s) ∧ Below w2.heap.size w2 wr) (fun _ vi _ => n - (intOf vi).toNat)
  case atStart => exact ⟨0, 0, Nat.zero_le _, rfl, rfl, Lib.hid rfl, Below.refl _ _⟩
  case round =>
    obtain ⟨i, s, hi, rfl, rfl, HS, hb⟩ := hrel
    have hsum := worth_bd (k := i) (fun j hj => HO.out j (by have := HL.out; omega)) (by have := HL.out; omega)
    rw [HS.out] at hsum
    by_cases hlt : i < n
    · skip
      obtain ⟨x0, x1, x2, hx⟩ : ∃ x0 x1 x2, lnAt ls i = ⟨x0, x1, x2⟩ := ⟨_, _, _, rfl⟩
      have HX := Lib.hid hx
      obtain ⟨b, off, rfl, hbB, hcell⟩ := (hr.below hb (by omega)).form (by omega)
      obtain ⟨g0, g1, g2⟩ := lnCells_at (k := i) hx (by have := HL.out; omega)
      have c0 := hcell _ _ g0
      have c1 := hcell _ _ g1
      have c2 := hcell _ _ g2
      rw [← Nat.add_assoc] at c1 c2
      have hz := hb.size
      have hbA := hb.alloc hz (.cells #[.int .i64 x0, .int .i64 x1, .int .i64 x2] 63)
      clear hcell g0 g1 g2 hx
      have i0 : (0 : Int) ≤ (i : Int) := by omega
      have i1 : (i : Int) < (n : Int) := by omega
      have hg := (lnGood_iff.1 (okAt_iff.1 (HO.out i (by have := HL.out; omega))).1).2.2
      rw [HX.out] at hg
      simp only at hg
      have HT : Hid (worth (ls.take (i + 1)) = s + (if ownA ⟨x0, x1, x2⟩ then x2 else 0)) := Lib.hid (by rw [worth_take (by have := HL.out; omega), HX.out, HS.out])
      by_cases h1 : x0 = 1
      · have e1 : (x0 == 1) = true := by simp; exact h1
        have HE : Hid (worth (ls.take (i + 1)) = s + x2) := Lib.hid (by rw [HT.out]; simp [ownA, h1])
        clear h1
        go_wp2
        go_roundw
        case rel => exact ⟨i + 1, _, by omega, rfl, by go_num, HE, hbA⟩
        case measure => simp [intOf]; omega
      · have e1 : (x0 == 1) = false := by simp; exact h1
        by_cases h2 : 6 ≤ x0
        · have HE : Hid (worth (ls.take (i + 1)) = s + x2) := Lib.hid (by rw [HT.out]; simp [ownA, h2])
          clear h1
          go_wp2
          go_roundw
          case rel => exact ⟨i + 1, _, by omega, rfl, by go_num, HE, hbA⟩
          case measure => simp [intOf]; omega
        · have e2 : decide (6 ≤ x0) = false := by simp; omega
          have HE : Hid (worth (ls.take (i + 1)) = s) := Lib.hid (by rw [HT.out]; simp [ownA, h2, h1])
          clear h1 h2
          go_wp2
          go_roundw
          case rel => exact ⟨i + 1, _, by omega, rfl, by go_num, HE, hbA⟩
          case measure => simp [intOf]; omega
    · have hge : i = n := by omega
      subst hge
      have HE : Hid (s = r) := Lib.hid (by rw [← HS.out, List.take_of_length_le (by rw [HL.out]; exact Nat.le_refl _)]; exact HR.out)
      go_wp2
      go_ret
      exact ⟨ret_intB HE.out, b2.trans (hb.mono (by omega))⟩
set_option maxHeartbeats 1000000 in
set_option maxRecDepth 100000 in
theorem spec_Worth (q : Int) (A : Option Addr) (n c : Nat) (ls : List Ln) (W : World) (hr : Rd W W.heap.size 3 A n (lnCells ls)) (hn : n ≤ 1099511627776) :
    Calls Try.prog 30 #[.agg #[.int .i64 q, .slice A n c]] W fun e w' => e = .returned (.int .i64 (wor q ls)) ∧ Below W.heap.size W w' := by
  have hl := lnlen_of_rd hr
  have HL := Lib.hid hl
  clear hl
  rcases hL : ledOk q ls with _ | _
  · rw [show wor q ls = 0 by simp [wor, hL]]
    go_enter Try.func30, Try.ntmps30
    go_wp2_with (first | (go_at_call 18; refine (spec_LedgerOk q A n c ls _ ((hr.alloc (Nat.le_refl _) _).more (by simp)) hn).mono ?_; rintro e w1 ⟨rfl, hb1⟩; rw [hL]))
    go_ret
    exact ⟨rfl, ((Below.refl _ _).alloc (Nat.le_refl _) _).trans (hb1.mono (by simp))⟩
  have hO := ledOk_lines hL
  have HO := Lib.hid hO
  have hn302 := okTo_le hO
  rw [HL.out] at hn302
  clear hO
  obtain ⟨r, hR⟩ : ∃ r, worth ls = r := ⟨_, rfl⟩
  rw [show wor q ls = r by simp [wor, hL, hR]]
  have HR := Lib.hid hR
  clear hR
  go_enter Try.func30, Try.ntmps30
  go_wp2_with fail
  have he1 : Eff 0 0 W (W.alloc (.cells #[.int .i64 q, .slice A n c] 34)) := Eff.alloc _ _
  have hs1 : (W.alloc (.cells #[.int .i64 q, .slice A n c] 34)).heap.size = W.heap.size + 1 := (by simp)
  have aL_0 : (W.alloc (.cells #[.int .i64 q, .slice A n c] 34)).cell? ⟨W.heap.size, 0, none⟩ = some (.int .i64 q) := var_cell _ _ _ _ _ rfl
  have aL_1 : (W.alloc (.cells #[.int .i64 q, .slice A n c] 34)).cell? ⟨W.heap.size, 1, none⟩ = some (.slice A n c) := var_cell _ _ _ _ _ rfl
  generalize (W.alloc (.cells #[.int .i64 q, .slice A n c] 34)) = w1 at *
  have hz1 : W.heap.size ≤ w1.heap.size := he1.size
  have b1 : Below W.heap.size W w1 := he1.below (Nat.le_refl _) (by omega)
  replace hr := (hr.below (he1.below (B := W.heap.size) (by omega) (by omega)) (Nat.le_refl _))
  have aL_l : W.heap.size < w1.heap.size := (by omega)
  refine (spec_LedgerOk q A n c ls w1 (hr.more (by omega)) hn).mono ?_
  rintro e w2 ⟨rfl, hb⟩
  have he2 : Eff 0 0 w1 w2 := Eff.of hb
  have hz2 : w1.heap.size ≤ w2.heap.size := he2.size
  have b2 : Below W.heap.size W w2 := b1.trans (he2.below b1.size (by omega))
  replace hr := (hr.below (he2.below (B := W.heap.size) (by omega) (by omega)) (Nat.le_refl _))
  replace aL_0 := he2.cell aL_0 (by simp only; omega)
  replace aL_1 := he2.cell aL_1 (by simp only; omega)
  replace aL_l := Nat.lt_of_lt_of_le aL_l hz2
  clear hb
  rw [hL]
  go_wp2
  go_loopw [3, 12] (fun vs vi wr => ∃ (i : Nat) (s : Int), i ≤ n ∧ vs = .int .i64 s ∧ vi = .int .i64 (i : Int) ∧ Hid (worth (ls.take i) = s) ∧ Below w2.heap.size w2 wr) (fun _ vi _ => n - (intOf vi).toNat)
  case atStart => exact ⟨0, 0, Nat.zero_le _, rfl, rfl, Lib.hid rfl, Below.refl _ _⟩
  case round =>
    obtain ⟨i, s, hi, rfl, rfl, HS, hb⟩ := hrel
    have hsum := worth_bd (k := i) (fun j hj => HO.out j (by have := HL.out; omega)) (by have := HL.out; omega)
    rw [HS.out] at hsum
    by_cases hlt : i < n
    · skip
      obtain ⟨x0, x1, x2, hx⟩ : ∃ x0 x1 x2, lnAt ls i = ⟨x0, x1, x2⟩ := ⟨_, _, _, rfl⟩
      have HX := Lib.hid hx
      obtain ⟨b, off, rfl, hbB, hcell⟩ := (hr.below hb (by omega)).form (by omega)
      obtain ⟨g0, g1, g2⟩ := lnCells_at (k := i) hx (by have := HL.out; omega)
      have c0 := hcell _ _ g0
      have c1 := hcell _ _ g1
      have c2 := hcell _ _ g2
      rw [← Nat.add_assoc] at c1 c2
      have hz := hb.size
      have hbA := hb.alloc hz (.cells #[.int .i64 x0, .int .i64 x1, .int .i64 x2] 63)
      clear hcell g0 g1 g2 hx
      have i0 : (0 : Int) ≤ (i : Int) := by omega
      have i1 : (i : Int) < (n : Int) := by omega
      have hg := (lnGood_iff.1 (okAt_iff.1 (HO.out i (by have := HL.out; omega))).1).2.2
      rw [HX.out] at hg
      simp only at hg
      have HT : Hid (worth (ls.take (i + 1)) = s + (if ownA ⟨x0, x1, x2⟩ then x2 else 0)) := Lib.hid (by rw [worth_take (by have := HL.out; omega), HX.out, HS.out])
      by_cases h1 : x0 = 1
      · have e1 : (x0 == 1) = true := by simp; exact h1
        have HE : Hid (worth (ls.take (i + 1)) = s + x2) := Lib.hid (by rw [HT.out]; simp [ownA, h1])
        clear h1
        go_wp2
        go_roundw
        case rel => exact ⟨i + 1, _, by omega, rfl, by go_num, HE, hbA⟩
        case measure => simp [intOf]; omega
      · have e1 : (x0 == 1) = false := by simp; exact h1
        by_cases h2 : 6 ≤ x0
        · have HE : Hid (worth (ls.take (i + 1)) = s + x2) := Lib.hid (by rw [HT.out]; simp [ownA, h2])
          clear h1
          go_wp2
          go_roundw
          case rel => exact ⟨i + 1, _, by omega, rfl, by go_num, HE, hbA⟩
          case measure => simp [intOf]; omega
        · have e2 : decide (6 ≤ x0) = false := by simp; omega
          have HE : Hid (worth (ls.take (i + 1)) = s) := Lib.hid (by rw [HT.out]; simp [ownA, h2, h1])
          clear h1 h2
          go_wp2
          go_roundw
          case rel => exact ⟨i + 1, _, by omega, rfl, by go_num, HE, hbA⟩
          case measure => simp [intOf]; omega
    · have hge : i = n := by omega
      subst hge
      have HE : Hid (s = r) := Lib.hid (by rw [← HS.out, List.take_of_length_le (by rw [HL.out]; exact Nat.le_refl _)]; exact HR.out)
      go_wp2
      go_ret
      exact ⟨ret_intB HE.out, b2.trans (hb.mono (by omega))⟩
end Go.Proofs.Ytgjphejmppehjaa
