/- Post, in the program and in the reference: both give what postR says. -/
import Derived.Test.YtgjphejmppehjaaAddL
import Derived.RegionTactic
namespace Go.Proofs.Ytgjphejmppehjaa
open Go.RowKit
/-- A ledger of the call's own, and a code. -/
def MadePost (q : Int) (ls : List Ln) (code : Int) (w : World) (e : Ending) (w' : World) : Prop :=
  ∃ A n c, n = ls.length ∧ e = .returned (.tuple #[.agg #[.int .i64 q, .slice A n c], .int .i64 code]) ∧ OwnL w' w.heap.size w'.heap.size A n c ls ∧ Below w.heap.size w w'
theorem MergR.yes {us vs os : List Ln} {w w' : World} {e : Ending} (h : MergR us vs w e w') (hm : mrg us vs = some os) : ∃ A c, e = .returned (.tuple #[.slice A os.length c, .bool true]) ∧ OwnL w' w.heap.size w'.heap.size A os.length c os ∧ Below w.heap.size w w' := by
  rcases h with ⟨os', A, c, hm', he, ho, hb⟩ | ⟨hm', _⟩
  · rw [hm] at hm'; cases hm'; exact ⟨A, c, he, ho, hb⟩
  · rw [hm] at hm'; cases hm'
theorem MergR.no {us vs : List Ln} {w w' : World} {e : Ending} (h : MergR us vs w e w') (hm : mrg us vs = none) : e = .returned (.tuple #[.slice none 0 0, .bool false]) ∧ Below w.heap.size w w' := by
  rcases h with ⟨os', A, c, hm', _⟩ | ⟨_, he, hb⟩
  · rw [hm] at hm'; cases hm'
  · exact ⟨he, hb⟩
theorem eff_set2 (w : World) (b : Nat) (u v : Value) : Eff b (b + 1) w ((w.setCell ⟨b, 0, none⟩ u).setCell ⟨b, 1, none⟩ v) := (eff_set w b 0 u).trans (eff_set _ b 1 v)
theorem made_zero {b : Nat} {W w w' : World} (code : Int) (hb : Below W.heap.size W w) (he : Eff b (b + 1) w w') (h : W.heap.size ≤ b) : MadePost 0 [] code W (.returned (.tuple #[.agg #[.int .i64 0, .slice none 0 0], .int .i64 code])) w' :=
  ⟨none, 0, 0, rfl, rfl, Own.nil _ _ _ _ _ (by have := hb.size; have := he.size; omega), hb.trans (he.below hb.size (.inl h))⟩
theorem made_led {b lo hi n c : Nat} {W w w' : World} {A : Option Addr} {q : Int} {ls : List Ln} (ho : OwnL w lo hi A n c ls) (hb : Below W.heap.size W w) (he : Eff b (b + 1) w w') (h : W.heap.size ≤ b) (hl : b < lo) (hlo : W.heap.size ≤ lo) : MadePost q ls 0 W (.returned (.tuple #[.agg #[.int .i64 q, .slice A n c], .int .i64 0])) w' :=
  ⟨A, n, c, (lnlen_of_own ho).symm, rfl, Own.made ho he (by omega) hlo, hb.trans (he.below hb.size (.inl h))⟩
theorem led_rng {q : Int} {ls : List Ln} (h : ledOk q ls = true) : (∀ x ∈ ls, rngA x.a = true) ∧ ls.length ≤ 302 := by
  simp only [ledOk, Bool.and_eq_true] at h
  exact ⟨good_rng (linesOk_all.1 h.2).1, linesOk_len h.2⟩
theorem pst_rng {q : Int} {ls : List Ln} (h : pstOk q ls = true) : (∀ x ∈ ls, rngA x.a = true) ∧ ls.length ≤ 8 ∧ 1 ≤ q ∧ q ≤ 1125899906842624 := by
  simp only [pstOk, Bool.and_eq_true, decide_eq_true_eq] at h
  have := inB_le h.1.1
  exact ⟨good_rng (linesOk_all.1 h.2).1, h.1.2.2, this.1, this.2⟩
set_option maxHeartbeats 4000000 in
set_option maxRecDepth 100000 in
theorem impl_Post (q : Int) (A : Option Addr) (n c : Nat) (ls : List Ln) (p : Int) (A' : Option Addr) (n' c' : Nat) (ps : List Ln) (W : World) (hr : Rd W W.heap.size 3 A n (lnCells ls)) (hr' : Rd W W.heap.size 3 A' n' (lnCells ps)) (hn : n ≤ 1099511627776) (hn' : n' ≤ 1099511627776) (hc : n ≤ c ∧ c ≤ maxLen) (hc' : n' ≤ c' ∧ c' ≤ maxLen) :
    Calls Try.prog 33 #[.agg #[.int .i64 q, .slice A n c], .agg #[.int .i64 p, .slice A' n' c']] W (MadePost (postR q ls p ps).1 (postR q ls p ps).2.1 (postR q ls p ps).2.2 W) := by
  have hl := lnlen_of_rd hr
  have hl' := lnlen_of_rd hr'
  have HL := Lib.hid hl
  have HL' := Lib.hid hl'
  clear hl hl'
  rcases hLok : ledOk q ls with _ | _
  · skip
    rw [show postR q ls p ps = (0, [], 1) by simp [postR, hLok]]
    show Calls _ _ _ _ (MadePost 0 [] 1 W)
    go_enter Try.func33, Try.ntmps33
    go_wp2_with fail
    have he1 : Eff 0 0 W (W.alloc (.cells #[.int .i64 q, .slice A n c] 34)) := Eff.alloc _ _
    have hs1 : (W.alloc (.cells #[.int .i64 q, .slice A n c] 34)).heap.size = W.heap.size + 1 := (by simp)
    have aL_0 : (W.alloc (.cells #[.int .i64 q, .slice A n c] 34)).cell? ⟨W.heap.size, 0, none⟩ = some (.int .i64 q) := var_cell _ _ _ _ _ rfl
    have aL_1 : (W.alloc (.cells #[.int .i64 q, .slice A n c] 34)).cell? ⟨W.heap.size, 1, none⟩ = some (.slice A n c) := var_cell _ _ _ _ _ rfl
    generalize (W.alloc (.cells #[.int .i64 q, .slice A n c] 34)) = w1 at *
    have hz1 : W.heap.size ≤ w1.heap.size := he1.size
    have b1 : Below W.heap.size W w1 := he1.below (Nat.le_refl _) (by omega)
    replace hr := (hr.below (he1.below (B := W.heap.size) (by omega) (by omega)) (Nat.le_refl _))
    replace hr' := (hr'.below (he1.below (B := W.heap.size) (by omega) (by omega)) (Nat.le_refl _))
    have aL_l : W.heap.size < w1.heap.size := (by omega)
    have he2 : Eff 0 0 w1 (w1.alloc (.cells #[.int .i64 p, .slice A' n' c'] 43)) := Eff.alloc _ _
    have hs2 : (w1.alloc (.cells #[.int .i64 p, .slice A' n' c'] 43)).heap.size = w1.heap.size + 1 := (by simp)
    have aP_0 : (w1.alloc (.cells #[.int .i64 p, .slice A' n' c'] 43)).cell? ⟨w1.heap.size, 0, none⟩ = some (.int .i64 p) := var_cell _ _ _ _ _ rfl
    have aP_1 : (w1.alloc (.cells #[.int .i64 p, .slice A' n' c'] 43)).cell? ⟨w1.heap.size, 1, none⟩ = some (.slice A' n' c') := var_cell _ _ _ _ _ rfl
    generalize (w1.alloc (.cells #[.int .i64 p, .slice A' n' c'] 43)) = w2 at *
    have hz2 : w1.heap.size ≤ w2.heap.size := he2.size
    have b2 : Below W.heap.size W w2 := b1.trans (he2.below b1.size (by omega))
    replace hr := (hr.below (he2.below (B := W.heap.size) (by omega) (by omega)) (Nat.le_refl _))
    replace hr' := (hr'.below (he2.below (B := W.heap.size) (by omega) (by omega)) (Nat.le_refl _))
    replace aL_0 := he2.cell aL_0 (by simp only; omega)
    replace aL_1 := he2.cell aL_1 (by simp only; omega)
    replace aL_l := Nat.lt_of_lt_of_le aL_l hz2
    rw [hs1] at aP_0
    rw [hs1] at aP_1
    have aP_l : W.heap.size + 1 < w2.heap.size := (by omega)
    have he3 : Eff 0 0 w2 (w2.alloc (.cells #[.int .i64 0, .slice none 0 0] 34)) := Eff.alloc _ _
    have hs3 : (w2.alloc (.cells #[.int .i64 0, .slice none 0 0] 34)).heap.size = w2.heap.size + 1 := (by simp)
    have res_0 : (w2.alloc (.cells #[.int .i64 0, .slice none 0 0] 34)).cell? ⟨w2.heap.size, 0, none⟩ = some (.int .i64 0) := var_cell _ _ _ _ _ rfl
    have res_1 : (w2.alloc (.cells #[.int .i64 0, .slice none 0 0] 34)).cell? ⟨w2.heap.size, 1, none⟩ = some (.slice none 0 0) := var_cell _ _ _ _ _ rfl
    have res_f0 : (w2.alloc (.cells #[.int .i64 0, .slice none 0 0] 34)).frozen? ⟨w2.heap.size, 0, none⟩ = false := var_frozen _ _ _ _
    have res_f1 : (w2.alloc (.cells #[.int .i64 0, .slice none 0 0] 34)).frozen? ⟨w2.heap.size, 1, none⟩ = false := var_frozen _ _ _ _
    generalize (w2.alloc (.cells #[.int .i64 0, .slice none 0 0] 34)) = w3 at *
    have hz3 : w2.heap.size ≤ w3.heap.size := he3.size
    have b3 : Below W.heap.size W w3 := b2.trans (he3.below b2.size (by omega))
    replace hr := (hr.below (he3.below (B := W.heap.size) (by omega) (by omega)) (Nat.le_refl _))
    replace hr' := (hr'.below (he3.below (B := W.heap.size) (by omega) (by omega)) (Nat.le_refl _))
    replace aL_0 := he3.cell aL_0 (by simp only; omega)
    replace aL_1 := he3.cell aL_1 (by simp only; omega)
    replace aP_0 := he3.cell aP_0 (by simp only; omega)
    replace aP_1 := he3.cell aP_1 (by simp only; omega)
    replace aL_l := Nat.lt_of_lt_of_le aL_l hz3
    replace aP_l := Nat.lt_of_lt_of_le aP_l hz3
    rw [hs2, hs1] at res_0 res_f0
    rw [hs2, hs1] at res_1 res_f1
    have res_l : W.heap.size + 1 + 1 < w3.heap.size := (by omega)
    refine (impl_LedgerOk q A n c ls w3 (hr.more (by omega)) hn).mono ?_
    rintro e w4 ⟨rfl, hb⟩
    have he4 : Eff 0 0 w3 w4 := Eff.of hb
    have hz4 : w3.heap.size ≤ w4.heap.size := he4.size
    have b4 : Below W.heap.size W w4 := b3.trans (he4.below b3.size (by omega))
    replace hr := (hr.below (he4.below (B := W.heap.size) (by omega) (by omega)) (Nat.le_refl _))
    replace hr' := (hr'.below (he4.below (B := W.heap.size) (by omega) (by omega)) (Nat.le_refl _))
    replace res_f0 := (he4.frozen res_0 (by simp only; omega)).trans res_f0
    replace res_f1 := (he4.frozen res_1 (by simp only; omega)).trans res_f1
    replace aL_0 := he4.cell aL_0 (by simp only; omega)
    replace aL_1 := he4.cell aL_1 (by simp only; omega)
    replace aP_0 := he4.cell aP_0 (by simp only; omega)
    replace aP_1 := he4.cell aP_1 (by simp only; omega)
    replace res_0 := he4.cell res_0 (by simp only; omega)
    replace res_1 := he4.cell res_1 (by simp only; omega)
    replace aL_l := Nat.lt_of_lt_of_le aL_l hz4
    replace aP_l := Nat.lt_of_lt_of_le aP_l hz4
    replace res_l := Nat.lt_of_lt_of_le res_l hz4
    clear hb
    rw [hLok]
    go_wp2
    refine bodyPost_ret (v := .tuple #[.agg #[.int .i64 0, .slice none 0 0], .int .i64 1]) (by simp [results, Try.results33, go_sem, *]) rfl ?_
    exact made_zero (b := W.heap.size + 1 + 1) 1 b4 (eff_set2 _ _ _ _) (by omega)
  rcases hPok : pstOk p ps with _ | _
  · skip
    rw [show postR q ls p ps = (0, [], 1) by simp [postR, hLok, hPok]]
    show Calls _ _ _ _ (MadePost 0 [] 1 W)
    go_enter Try.func33, Try.ntmps33
    go_wp2_with fail
    have he1 : Eff 0 0 W (W.alloc (.cells #[.int .i64 q, .slice A n c] 34)) := Eff.alloc _ _
    have hs1 : (W.alloc (.cells #[.int .i64 q, .slice A n c] 34)).heap.size = W.heap.size + 1 := (by simp)
    have aL_0 : (W.alloc (.cells #[.int .i64 q, .slice A n c] 34)).cell? ⟨W.heap.size, 0, none⟩ = some (.int .i64 q) := var_cell _ _ _ _ _ rfl
    have aL_1 : (W.alloc (.cells #[.int .i64 q, .slice A n c] 34)).cell? ⟨W.heap.size, 1, none⟩ = some (.slice A n c) := var_cell _ _ _ _ _ rfl
    generalize (W.alloc (.cells #[.int .i64 q, .slice A n c] 34)) = w1 at *
    have hz1 : W.heap.size ≤ w1.heap.size := he1.size
    have b1 : Below W.heap.size W w1 := he1.below (Nat.le_refl _) (by omega)
    replace hr := (hr.below (he1.below (B := W.heap.size) (by omega) (by omega)) (Nat.le_refl _))
    replace hr' := (hr'.below (he1.below (B := W.heap.size) (by omega) (by omega)) (Nat.le_refl _))
    have aL_l : W.heap.size < w1.heap.size := (by omega)
    have he2 : Eff 0 0 w1 (w1.alloc (.cells #[.int .i64 p, .slice A' n' c'] 43)) := Eff.alloc _ _
    have hs2 : (w1.alloc (.cells #[.int .i64 p, .slice A' n' c'] 43)).heap.size = w1.heap.size + 1 := (by simp)
    have aP_0 : (w1.alloc (.cells #[.int .i64 p, .slice A' n' c'] 43)).cell? ⟨w1.heap.size, 0, none⟩ = some (.int .i64 p) := var_cell _ _ _ _ _ rfl
    have aP_1 : (w1.alloc (.cells #[.int .i64 p, .slice A' n' c'] 43)).cell? ⟨w1.heap.size, 1, none⟩ = some (.slice A' n' c') := var_cell _ _ _ _ _ rfl
    generalize (w1.alloc (.cells #[.int .i64 p, .slice A' n' c'] 43)) = w2 at *
    have hz2 : w1.heap.size ≤ w2.heap.size := he2.size
    have b2 : Below W.heap.size W w2 := b1.trans (he2.below b1.size (by omega))
    replace hr := (hr.below (he2.below (B := W.heap.size) (by omega) (by omega)) (Nat.le_refl _))
    replace hr' := (hr'.below (he2.below (B := W.heap.size) (by omega) (by omega)) (Nat.le_refl _))
    replace aL_0 := he2.cell aL_0 (by simp only; omega)
    replace aL_1 := he2.cell aL_1 (by simp only; omega)
    replace aL_l := Nat.lt_of_lt_of_le aL_l hz2
    rw [hs1] at aP_0
    rw [hs1] at aP_1
    have aP_l : W.heap.size + 1 < w2.heap.size := (by omega)
    have he3 : Eff 0 0 w2 (w2.alloc (.cells #[.int .i64 0, .slice none 0 0] 34)) := Eff.alloc _ _
    have hs3 : (w2.alloc (.cells #[.int .i64 0, .slice none 0 0] 34)).heap.size = w2.heap.size + 1 := (by simp)
    have res_0 : (w2.alloc (.cells #[.int .i64 0, .slice none 0 0] 34)).cell? ⟨w2.heap.size, 0, none⟩ = some (.int .i64 0) := var_cell _ _ _ _ _ rfl
    have res_1 : (w2.alloc (.cells #[.int .i64 0, .slice none 0 0] 34)).cell? ⟨w2.heap.size, 1, none⟩ = some (.slice none 0 0) := var_cell _ _ _ _ _ rfl
    have res_f0 : (w2.alloc (.cells #[.int .i64 0, .slice none 0 0] 34)).frozen? ⟨w2.heap.size, 0, none⟩ = false := var_frozen _ _ _ _
    have res_f1 : (w2.alloc (.cells #[.int .i64 0, .slice none 0 0] 34)).frozen? ⟨w2.heap.size, 1, none⟩ = false := var_frozen _ _ _ _
    generalize (w2.alloc (.cells #[.int .i64 0, .slice none 0 0] 34)) = w3 at *
    have hz3 : w2.heap.size ≤ w3.heap.size := he3.size
    have b3 : Below W.heap.size W w3 := b2.trans (he3.below b2.size (by omega))
    replace hr := (hr.below (he3.below (B := W.heap.size) (by omega) (by omega)) (Nat.le_refl _))
    replace hr' := (hr'.below (he3.below (B := W.heap.size) (by omega) (by omega)) (Nat.le_refl _))
    replace aL_0 := he3.cell aL_0 (by simp only; omega)
    replace aL_1 := he3.cell aL_1 (by simp only; omega)
    replace aP_0 := he3.cell aP_0 (by simp only; omega)
    replace aP_1 := he3.cell aP_1 (by simp only; omega)
    replace aL_l := Nat.lt_of_lt_of_le aL_l hz3
    replace aP_l := Nat.lt_of_lt_of_le aP_l hz3
    rw [hs2, hs1] at res_0 res_f0
    rw [hs2, hs1] at res_1 res_f1
    have res_l : W.heap.size + 1 + 1 < w3.heap.size := (by omega)
    refine (impl_LedgerOk q A n c ls w3 (hr.more (by omega)) hn).mono ?_
    rintro e w4 ⟨rfl, hb⟩
    have he4 : Eff 0 0 w3 w4 := Eff.of hb
    have hz4 : w3.heap.size ≤ w4.heap.size := he4.size
    have b4 : Below W.heap.size W w4 := b3.trans (he4.below b3.size (by omega))
    replace hr := (hr.below (he4.below (B := W.heap.size) (by omega) (by omega)) (Nat.le_refl _))
    replace hr' := (hr'.below (he4.below (B := W.heap.size) (by omega) (by omega)) (Nat.le_refl _))
    replace res_f0 := (he4.frozen res_0 (by simp only; omega)).trans res_f0
    replace res_f1 := (he4.frozen res_1 (by simp only; omega)).trans res_f1
    replace aL_0 := he4.cell aL_0 (by simp only; omega)
    replace aL_1 := he4.cell aL_1 (by simp only; omega)
    replace aP_0 := he4.cell aP_0 (by simp only; omega)
    replace aP_1 := he4.cell aP_1 (by simp only; omega)
    replace res_0 := he4.cell res_0 (by simp only; omega)
    replace res_1 := he4.cell res_1 (by simp only; omega)
    replace aL_l := Nat.lt_of_lt_of_le aL_l hz4
    replace aP_l := Nat.lt_of_lt_of_le aP_l hz4
    replace res_l := Nat.lt_of_lt_of_le res_l hz4
    clear hb
    rw [hLok]
    go_wp2_with fail
    refine (impl_PostingOk p A' n' c' ps w4 (hr'.more (by omega)) hn').mono ?_
    rintro e w5 ⟨rfl, hb⟩
    have he5 : Eff 0 0 w4 w5 := Eff.of hb
    have hz5 : w4.heap.size ≤ w5.heap.size := he5.size
    have b5 : Below W.heap.size W w5 := b4.trans (he5.below b4.size (by omega))
    replace hr := (hr.below (he5.below (B := W.heap.size) (by omega) (by omega)) (Nat.le_refl _))
    replace hr' := (hr'.below (he5.below (B := W.heap.size) (by omega) (by omega)) (Nat.le_refl _))
    replace res_f0 := (he5.frozen res_0 (by simp only; omega)).trans res_f0
    replace res_f1 := (he5.frozen res_1 (by simp only; omega)).trans res_f1
    replace aL_0 := he5.cell aL_0 (by simp only; omega)
    replace aL_1 := he5.cell aL_1 (by simp only; omega)
    replace aP_0 := he5.cell aP_0 (by simp only; omega)
    replace aP_1 := he5.cell aP_1 (by simp only; omega)
    replace res_0 := he5.cell res_0 (by simp only; omega)
    replace res_1 := he5.cell res_1 (by simp only; omega)
    replace aL_l := Nat.lt_of_lt_of_le aL_l hz5
    replace aP_l := Nat.lt_of_lt_of_le aP_l hz5
    replace res_l := Nat.lt_of_lt_of_le res_l hz5
    clear hb
    rw [hPok]
    go_wp2
    refine bodyPost_ret (v := .tuple #[.agg #[.int .i64 0, .slice none 0 0], .int .i64 1]) (by simp [results, Try.results33, go_sem, *]) rfl ?_
    exact made_zero (b := W.heap.size + 1 + 1) 1 b5 (eff_set2 _ _ _ _) (by omega)
  have hLr := led_rng hLok
  have hPr := pst_rng hPok
  rw [HL.out] at hLr
  rw [HL'.out] at hPr
  obtain ⟨hLa, hLn⟩ := hLr
  obtain ⟨hPa, hPn, hp1, hp2⟩ := hPr
  have HLa := Lib.hid hLa
  have HPa := Lib.hid hPa
  clear hLa hPa
  by_cases hid : p ≤ q
  · skip
    rw [show postR q ls p ps = (0, [], 2) by simp [postR, hLok, hPok, hid]]
    show Calls _ _ _ _ (MadePost 0 [] 2 W)
    go_enter Try.func33, Try.ntmps33
    go_wp2_with fail
    have he1 : Eff 0 0 W (W.alloc (.cells #[.int .i64 q, .slice A n c] 34)) := Eff.alloc _ _
    have hs1 : (W.alloc (.cells #[.int .i64 q, .slice A n c] 34)).heap.size = W.heap.size + 1 := (by simp)
    have aL_0 : (W.alloc (.cells #[.int .i64 q, .slice A n c] 34)).cell? ⟨W.heap.size, 0, none⟩ = some (.int .i64 q) := var_cell _ _ _ _ _ rfl
    have aL_1 : (W.alloc (.cells #[.int .i64 q, .slice A n c] 34)).cell? ⟨W.heap.size, 1, none⟩ = some (.slice A n c) := var_cell _ _ _ _ _ rfl
    generalize (W.alloc (.cells #[.int .i64 q, .slice A n c] 34)) = w1 at *
    have hz1 : W.heap.size ≤ w1.heap.size := he1.size
    have b1 : Below W.heap.size W w1 := he1.below (Nat.le_refl _) (by omega)
    replace hr := (hr.below (he1.below (B := W.heap.size) (by omega) (by omega)) (Nat.le_refl _))
    replace hr' := (hr'.below (he1.below (B := W.heap.size) (by omega) (by omega)) (Nat.le_refl _))
    have aL_l : W.heap.size < w1.heap.size := (by omega)
    have he2 : Eff 0 0 w1 (w1.alloc (.cells #[.int .i64 p, .slice A' n' c'] 43)) := Eff.alloc _ _
    have hs2 : (w1.alloc (.cells #[.int .i64 p, .slice A' n' c'] 43)).heap.size = w1.heap.size + 1 := (by simp)
    have aP_0 : (w1.alloc (.cells #[.int .i64 p, .slice A' n' c'] 43)).cell? ⟨w1.heap.size, 0, none⟩ = some (.int .i64 p) := var_cell _ _ _ _ _ rfl
    have aP_1 : (w1.alloc (.cells #[.int .i64 p, .slice A' n' c'] 43)).cell? ⟨w1.heap.size, 1, none⟩ = some (.slice A' n' c') := var_cell _ _ _ _ _ rfl
    generalize (w1.alloc (.cells #[.int .i64 p, .slice A' n' c'] 43)) = w2 at *
    have hz2 : w1.heap.size ≤ w2.heap.size := he2.size
    have b2 : Below W.heap.size W w2 := b1.trans (he2.below b1.size (by omega))
    replace hr := (hr.below (he2.below (B := W.heap.size) (by omega) (by omega)) (Nat.le_refl _))
    replace hr' := (hr'.below (he2.below (B := W.heap.size) (by omega) (by omega)) (Nat.le_refl _))
    replace aL_0 := he2.cell aL_0 (by simp only; omega)
    replace aL_1 := he2.cell aL_1 (by simp only; omega)
    replace aL_l := Nat.lt_of_lt_of_le aL_l hz2
    rw [hs1] at aP_0
    rw [hs1] at aP_1
    have aP_l : W.heap.size + 1 < w2.heap.size := (by omega)
    have he3 : Eff 0 0 w2 (w2.alloc (.cells #[.int .i64 0, .slice none 0 0] 34)) := Eff.alloc _ _
    have hs3 : (w2.alloc (.cells #[.int .i64 0, .slice none 0 0] 34)).heap.size = w2.heap.size + 1 := (by simp)
    have res_0 : (w2.alloc (.cells #[.int .i64 0, .slice none 0 0] 34)).cell? ⟨w2.heap.size, 0, none⟩ = some (.int .i64 0) := var_cell _ _ _ _ _ rfl
    have res_1 : (w2.alloc (.cells #[.int .i64 0, .slice none 0 0] 34)).cell? ⟨w2.heap.size, 1, none⟩ = some (.slice none 0 0) := var_cell _ _ _ _ _ rfl
    have res_f0 : (w2.alloc (.cells #[.int .i64 0, .slice none 0 0] 34)).frozen? ⟨w2.heap.size, 0, none⟩ = false := var_frozen _ _ _ _
    have res_f1 : (w2.alloc (.cells #[.int .i64 0, .slice none 0 0] 34)).frozen? ⟨w2.heap.size, 1, none⟩ = false := var_frozen _ _ _ _
    generalize (w2.alloc (.cells #[.int .i64 0, .slice none 0 0] 34)) = w3 at *
    have hz3 : w2.heap.size ≤ w3.heap.size := he3.size
    have b3 : Below W.heap.size W w3 := b2.trans (he3.below b2.size (by omega))
    replace hr := (hr.below (he3.below (B := W.heap.size) (by omega) (by omega)) (Nat.le_refl _))
    replace hr' := (hr'.below (he3.below (B := W.heap.size) (by omega) (by omega)) (Nat.le_refl _))
    replace aL_0 := he3.cell aL_0 (by simp only; omega)
    replace aL_1 := he3.cell aL_1 (by simp only; omega)
    replace aP_0 := he3.cell aP_0 (by simp only; omega)
    replace aP_1 := he3.cell aP_1 (by simp only; omega)
    replace aL_l := Nat.lt_of_lt_of_le aL_l hz3
    replace aP_l := Nat.lt_of_lt_of_le aP_l hz3
    rw [hs2, hs1] at res_0 res_f0
    rw [hs2, hs1] at res_1 res_f1
    have res_l : W.heap.size + 1 + 1 < w3.heap.size := (by omega)
    refine (impl_LedgerOk q A n c ls w3 (hr.more (by omega)) hn).mono ?_
    rintro e w4 ⟨rfl, hb⟩
    have he4 : Eff 0 0 w3 w4 := Eff.of hb
    have hz4 : w3.heap.size ≤ w4.heap.size := he4.size
    have b4 : Below W.heap.size W w4 := b3.trans (he4.below b3.size (by omega))
    replace hr := (hr.below (he4.below (B := W.heap.size) (by omega) (by omega)) (Nat.le_refl _))
    replace hr' := (hr'.below (he4.below (B := W.heap.size) (by omega) (by omega)) (Nat.le_refl _))
    replace res_f0 := (he4.frozen res_0 (by simp only; omega)).trans res_f0
    replace res_f1 := (he4.frozen res_1 (by simp only; omega)).trans res_f1
    replace aL_0 := he4.cell aL_0 (by simp only; omega)
    replace aL_1 := he4.cell aL_1 (by simp only; omega)
    replace aP_0 := he4.cell aP_0 (by simp only; omega)
    replace aP_1 := he4.cell aP_1 (by simp only; omega)
    replace res_0 := he4.cell res_0 (by simp only; omega)
    replace res_1 := he4.cell res_1 (by simp only; omega)
    replace aL_l := Nat.lt_of_lt_of_le aL_l hz4
    replace aP_l := Nat.lt_of_lt_of_le aP_l hz4
    replace res_l := Nat.lt_of_lt_of_le res_l hz4
    clear hb
    rw [hLok]
    go_wp2_with fail
    refine (impl_PostingOk p A' n' c' ps w4 (hr'.more (by omega)) hn').mono ?_
    rintro e w5 ⟨rfl, hb⟩
    have he5 : Eff 0 0 w4 w5 := Eff.of hb
    have hz5 : w4.heap.size ≤ w5.heap.size := he5.size
    have b5 : Below W.heap.size W w5 := b4.trans (he5.below b4.size (by omega))
    replace hr := (hr.below (he5.below (B := W.heap.size) (by omega) (by omega)) (Nat.le_refl _))
    replace hr' := (hr'.below (he5.below (B := W.heap.size) (by omega) (by omega)) (Nat.le_refl _))
    replace res_f0 := (he5.frozen res_0 (by simp only; omega)).trans res_f0
    replace res_f1 := (he5.frozen res_1 (by simp only; omega)).trans res_f1
    replace aL_0 := he5.cell aL_0 (by simp only; omega)
    replace aL_1 := he5.cell aL_1 (by simp only; omega)
    replace aP_0 := he5.cell aP_0 (by simp only; omega)
    replace aP_1 := he5.cell aP_1 (by simp only; omega)
    replace res_0 := he5.cell res_0 (by simp only; omega)
    replace res_1 := he5.cell res_1 (by simp only; omega)
    replace aL_l := Nat.lt_of_lt_of_le aL_l hz5
    replace aP_l := Nat.lt_of_lt_of_le aP_l hz5
    replace res_l := Nat.lt_of_lt_of_le res_l hz5
    clear hb
    rw [hPok]
    go_wp2
    refine bodyPost_ret (v := .tuple #[.agg #[.int .i64 0, .slice none 0 0], .int .i64 2]) (by simp [results, Try.results33, go_sem, *]) rfl ?_
    exact made_zero (b := W.heap.size + 1 + 1) 2 b5 (eff_set2 _ _ _ _) (by omega)
  have hid1 : q < p := by omega
  have HM := Lib.hid (mrg_ok hLok hPok)
  have HLed := Lib.hid (mrg_led hLok hPok)
  have HLi := Lib.hid (mrg_lines hLok hPok)
  rcases hall : (mrgU ls ps).all (fun x => rngA x.a) with _ | _
  · skip
    rw [show postR q ls p ps = (0, [], 3) by simp [postR, hLok, hPok, hid, hall]]
    show Calls _ _ _ _ (MadePost 0 [] 3 W)
    have HN : Hid (mrg ls ps = none) := Lib.hid (by rw [HM.out, hall]; rfl)
    clear hall hid
    go_enter Try.func33, Try.ntmps33
    go_wp2_with fail
    have he1 : Eff 0 0 W (W.alloc (.cells #[.int .i64 q, .slice A n c] 34)) := Eff.alloc _ _
    have hs1 : (W.alloc (.cells #[.int .i64 q, .slice A n c] 34)).heap.size = W.heap.size + 1 := (by simp)
    have aL_0 : (W.alloc (.cells #[.int .i64 q, .slice A n c] 34)).cell? ⟨W.heap.size, 0, none⟩ = some (.int .i64 q) := var_cell _ _ _ _ _ rfl
    have aL_1 : (W.alloc (.cells #[.int .i64 q, .slice A n c] 34)).cell? ⟨W.heap.size, 1, none⟩ = some (.slice A n c) := var_cell _ _ _ _ _ rfl
    generalize (W.alloc (.cells #[.int .i64 q, .slice A n c] 34)) = w1 at *
    have hz1 : W.heap.size ≤ w1.heap.size := he1.size
    have b1 : Below W.heap.size W w1 := he1.below (Nat.le_refl _) (by omega)
    replace hr := (hr.below (he1.below (B := W.heap.size) (by omega) (by omega)) (Nat.le_refl _))
    replace hr' := (hr'.below (he1.below (B := W.heap.size) (by omega) (by omega)) (Nat.le_refl _))
    have aL_l : W.heap.size < w1.heap.size := (by omega)
    have he2 : Eff 0 0 w1 (w1.alloc (.cells #[.int .i64 p, .slice A' n' c'] 43)) := Eff.alloc _ _
    have hs2 : (w1.alloc (.cells #[.int .i64 p, .slice A' n' c'] 43)).heap.size = w1.heap.size + 1 := (by simp)
    have aP_0 : (w1.alloc (.cells #[.int .i64 p, .slice A' n' c'] 43)).cell? ⟨w1.heap.size, 0, none⟩ = some (.int .i64 p) := var_cell _ _ _ _ _ rfl
    have aP_1 : (w1.alloc (.cells #[.int .i64 p, .slice A' n' c'] 43)).cell? ⟨w1.heap.size, 1, none⟩ = some (.slice A' n' c') := var_cell _ _ _ _ _ rfl
    generalize (w1.alloc (.cells #[.int .i64 p, .slice A' n' c'] 43)) = w2 at *
    have hz2 : w1.heap.size ≤ w2.heap.size := he2.size
    have b2 : Below W.heap.size W w2 := b1.trans (he2.below b1.size (by omega))
    replace hr := (hr.below (he2.below (B := W.heap.size) (by omega) (by omega)) (Nat.le_refl _))
    replace hr' := (hr'.below (he2.below (B := W.heap.size) (by omega) (by omega)) (Nat.le_refl _))
    replace aL_0 := he2.cell aL_0 (by simp only; omega)
    replace aL_1 := he2.cell aL_1 (by simp only; omega)
    replace aL_l := Nat.lt_of_lt_of_le aL_l hz2
    rw [hs1] at aP_0
    rw [hs1] at aP_1
    have aP_l : W.heap.size + 1 < w2.heap.size := (by omega)
    have he3 : Eff 0 0 w2 (w2.alloc (.cells #[.int .i64 0, .slice none 0 0] 34)) := Eff.alloc _ _
    have hs3 : (w2.alloc (.cells #[.int .i64 0, .slice none 0 0] 34)).heap.size = w2.heap.size + 1 := (by simp)
    have res_0 : (w2.alloc (.cells #[.int .i64 0, .slice none 0 0] 34)).cell? ⟨w2.heap.size, 0, none⟩ = some (.int .i64 0) := var_cell _ _ _ _ _ rfl
    have res_1 : (w2.alloc (.cells #[.int .i64 0, .slice none 0 0] 34)).cell? ⟨w2.heap.size, 1, none⟩ = some (.slice none 0 0) := var_cell _ _ _ _ _ rfl
    have res_f0 : (w2.alloc (.cells #[.int .i64 0, .slice none 0 0] 34)).frozen? ⟨w2.heap.size, 0, none⟩ = false := var_frozen _ _ _ _
    have res_f1 : (w2.alloc (.cells #[.int .i64 0, .slice none 0 0] 34)).frozen? ⟨w2.heap.size, 1, none⟩ = false := var_frozen _ _ _ _
    generalize (w2.alloc (.cells #[.int .i64 0, .slice none 0 0] 34)) = w3 at *
    have hz3 : w2.heap.size ≤ w3.heap.size := he3.size
    have b3 : Below W.heap.size W w3 := b2.trans (he3.below b2.size (by omega))
    replace hr := (hr.below (he3.below (B := W.heap.size) (by omega) (by omega)) (Nat.le_refl _))
    replace hr' := (hr'.below (he3.below (B := W.heap.size) (by omega) (by omega)) (Nat.le_refl _))
    replace aL_0 := he3.cell aL_0 (by simp only; omega)
    replace aL_1 := he3.cell aL_1 (by simp only; omega)
    replace aP_0 := he3.cell aP_0 (by simp only; omega)
    replace aP_1 := he3.cell aP_1 (by simp only; omega)
    replace aL_l := Nat.lt_of_lt_of_le aL_l hz3
    replace aP_l := Nat.lt_of_lt_of_le aP_l hz3
    rw [hs2, hs1] at res_0 res_f0
    rw [hs2, hs1] at res_1 res_f1
    have res_l : W.heap.size + 1 + 1 < w3.heap.size := (by omega)
    refine (impl_LedgerOk q A n c ls w3 (hr.more (by omega)) hn).mono ?_
    rintro e w4 ⟨rfl, hb⟩
    have he4 : Eff 0 0 w3 w4 := Eff.of hb
    have hz4 : w3.heap.size ≤ w4.heap.size := he4.size
    have b4 : Below W.heap.size W w4 := b3.trans (he4.below b3.size (by omega))
    replace hr := (hr.below (he4.below (B := W.heap.size) (by omega) (by omega)) (Nat.le_refl _))
    replace hr' := (hr'.below (he4.below (B := W.heap.size) (by omega) (by omega)) (Nat.le_refl _))
    replace res_f0 := (he4.frozen res_0 (by simp only; omega)).trans res_f0
    replace res_f1 := (he4.frozen res_1 (by simp only; omega)).trans res_f1
    replace aL_0 := he4.cell aL_0 (by simp only; omega)
    replace aL_1 := he4.cell aL_1 (by simp only; omega)
    replace aP_0 := he4.cell aP_0 (by simp only; omega)
    replace aP_1 := he4.cell aP_1 (by simp only; omega)
    replace res_0 := he4.cell res_0 (by simp only; omega)
    replace res_1 := he4.cell res_1 (by simp only; omega)
    replace aL_l := Nat.lt_of_lt_of_le aL_l hz4
    replace aP_l := Nat.lt_of_lt_of_le aP_l hz4
    replace res_l := Nat.lt_of_lt_of_le res_l hz4
    clear hb
    rw [hLok]
    go_wp2_with fail
    refine (impl_PostingOk p A' n' c' ps w4 (hr'.more (by omega)) hn').mono ?_
    rintro e w5 ⟨rfl, hb⟩
    have he5 : Eff 0 0 w4 w5 := Eff.of hb
    have hz5 : w4.heap.size ≤ w5.heap.size := he5.size
    have b5 : Below W.heap.size W w5 := b4.trans (he5.below b4.size (by omega))
    replace hr := (hr.below (he5.below (B := W.heap.size) (by omega) (by omega)) (Nat.le_refl _))
    replace hr' := (hr'.below (he5.below (B := W.heap.size) (by omega) (by omega)) (Nat.le_refl _))
    replace res_f0 := (he5.frozen res_0 (by simp only; omega)).trans res_f0
    replace res_f1 := (he5.frozen res_1 (by simp only; omega)).trans res_f1
    replace aL_0 := he5.cell aL_0 (by simp only; omega)
    replace aL_1 := he5.cell aL_1 (by simp only; omega)
    replace aP_0 := he5.cell aP_0 (by simp only; omega)
    replace aP_1 := he5.cell aP_1 (by simp only; omega)
    replace res_0 := he5.cell res_0 (by simp only; omega)
    replace res_1 := he5.cell res_1 (by simp only; omega)
    replace aL_l := Nat.lt_of_lt_of_le aL_l hz5
    replace aP_l := Nat.lt_of_lt_of_le aP_l hz5
    replace res_l := Nat.lt_of_lt_of_le res_l hz5
    clear hb
    rw [hPok]
    go_wp2_with fail
    refine (impl_merged A n c ls A' n' c' ps w5 (hr.more (by omega)) (hr'.more (by omega)) hc hc' hn hn' ⟨HLa.out, HPa.out⟩).mono ?_
    rintro e w6 hpost
    obtain ⟨rfl, hb⟩ := hpost.no HN.out
    clear hpost
    have he6 : Eff 0 0 w5 w6 := Eff.of hb
    have hz6 : w5.heap.size ≤ w6.heap.size := he6.size
    have b6 : Below W.heap.size W w6 := b5.trans (he6.below b5.size (by omega))
    replace hr := (hr.below (he6.below (B := W.heap.size) (by omega) (by omega)) (Nat.le_refl _))
    replace hr' := (hr'.below (he6.below (B := W.heap.size) (by omega) (by omega)) (Nat.le_refl _))
    replace res_f0 := (he6.frozen res_0 (by simp only; omega)).trans res_f0
    replace res_f1 := (he6.frozen res_1 (by simp only; omega)).trans res_f1
    replace aL_0 := he6.cell aL_0 (by simp only; omega)
    replace aL_1 := he6.cell aL_1 (by simp only; omega)
    replace aP_0 := he6.cell aP_0 (by simp only; omega)
    replace aP_1 := he6.cell aP_1 (by simp only; omega)
    replace res_0 := he6.cell res_0 (by simp only; omega)
    replace res_1 := he6.cell res_1 (by simp only; omega)
    replace aL_l := Nat.lt_of_lt_of_le aL_l hz6
    replace aP_l := Nat.lt_of_lt_of_le aP_l hz6
    replace res_l := Nat.lt_of_lt_of_le res_l hz6
    clear hb
    go_wp2
    refine bodyPost_ret (v := .tuple #[.agg #[.int .i64 0, .slice none 0 0], .int .i64 3]) (by simp [results, Try.results33, go_sem, *]) rfl ?_
    exact made_zero (b := W.heap.size + 1 + 1) 3 b6 (eff_set2 _ _ _ _) (by omega)
  · skip
    have hlen : (mrgU ls ps).length ≤ 302 := linesOk_len (by rw [HLi.out, hall])
    rw [show postR q ls p ps = (p, mrgU ls ps, 0) by simp [postR, hLok, hPok, hid, hall]]
    show Calls _ _ _ _ (MadePost p (mrgU ls ps) 0 W)
    have HN : Hid (mrg ls ps = some (mrgU ls ps)) := Lib.hid (by rw [HM.out, hall]; rfl)
    clear hall hid
    generalize mrgU ls ps = os at HN hlen ⊢
    obtain ⟨k, hk⟩ : ∃ k, os.length = k := ⟨_, rfl⟩
    rw [hk] at hlen
    have HK := Lib.hid hk
    clear hk HLed HLi HM
    go_enter Try.func33, Try.ntmps33
    go_wp2_with fail
    have he1 : Eff 0 0 W (W.alloc (.cells #[.int .i64 q, .slice A n c] 34)) := Eff.alloc _ _
    have hs1 : (W.alloc (.cells #[.int .i64 q, .slice A n c] 34)).heap.size = W.heap.size + 1 := (by simp)
    have aL_0 : (W.alloc (.cells #[.int .i64 q, .slice A n c] 34)).cell? ⟨W.heap.size, 0, none⟩ = some (.int .i64 q) := var_cell _ _ _ _ _ rfl
    have aL_1 : (W.alloc (.cells #[.int .i64 q, .slice A n c] 34)).cell? ⟨W.heap.size, 1, none⟩ = some (.slice A n c) := var_cell _ _ _ _ _ rfl
    generalize (W.alloc (.cells #[.int .i64 q, .slice A n c] 34)) = w1 at *
    have hz1 : W.heap.size ≤ w1.heap.size := he1.size
    have b1 : Below W.heap.size W w1 := he1.below (Nat.le_refl _) (by omega)
    replace hr := (hr.below (he1.below (B := W.heap.size) (by omega) (by omega)) (Nat.le_refl _))
    replace hr' := (hr'.below (he1.below (B := W.heap.size) (by omega) (by omega)) (Nat.le_refl _))
    have aL_l : W.heap.size < w1.heap.size := (by omega)
    have he2 : Eff 0 0 w1 (w1.alloc (.cells #[.int .i64 p, .slice A' n' c'] 43)) := Eff.alloc _ _
    have hs2 : (w1.alloc (.cells #[.int .i64 p, .slice A' n' c'] 43)).heap.size = w1.heap.size + 1 := (by simp)
    have aP_0 : (w1.alloc (.cells #[.int .i64 p, .slice A' n' c'] 43)).cell? ⟨w1.heap.size, 0, none⟩ = some (.int .i64 p) := var_cell _ _ _ _ _ rfl
    have aP_1 : (w1.alloc (.cells #[.int .i64 p, .slice A' n' c'] 43)).cell? ⟨w1.heap.size, 1, none⟩ = some (.slice A' n' c') := var_cell _ _ _ _ _ rfl
    generalize (w1.alloc (.cells #[.int .i64 p, .slice A' n' c'] 43)) = w2 at *
    have hz2 : w1.heap.size ≤ w2.heap.size := he2.size
    have b2 : Below W.heap.size W w2 := b1.trans (he2.below b1.size (by omega))
    replace hr := (hr.below (he2.below (B := W.heap.size) (by omega) (by omega)) (Nat.le_refl _))
    replace hr' := (hr'.below (he2.below (B := W.heap.size) (by omega) (by omega)) (Nat.le_refl _))
    replace aL_0 := he2.cell aL_0 (by simp only; omega)
    replace aL_1 := he2.cell aL_1 (by simp only; omega)
    replace aL_l := Nat.lt_of_lt_of_le aL_l hz2
    rw [hs1] at aP_0
    rw [hs1] at aP_1
    have aP_l : W.heap.size + 1 < w2.heap.size := (by omega)
    have he3 : Eff 0 0 w2 (w2.alloc (.cells #[.int .i64 0, .slice none 0 0] 34)) := Eff.alloc _ _
    have hs3 : (w2.alloc (.cells #[.int .i64 0, .slice none 0 0] 34)).heap.size = w2.heap.size + 1 := (by simp)
    have res_0 : (w2.alloc (.cells #[.int .i64 0, .slice none 0 0] 34)).cell? ⟨w2.heap.size, 0, none⟩ = some (.int .i64 0) := var_cell _ _ _ _ _ rfl
    have res_1 : (w2.alloc (.cells #[.int .i64 0, .slice none 0 0] 34)).cell? ⟨w2.heap.size, 1, none⟩ = some (.slice none 0 0) := var_cell _ _ _ _ _ rfl
    have res_f0 : (w2.alloc (.cells #[.int .i64 0, .slice none 0 0] 34)).frozen? ⟨w2.heap.size, 0, none⟩ = false := var_frozen _ _ _ _
    have res_f1 : (w2.alloc (.cells #[.int .i64 0, .slice none 0 0] 34)).frozen? ⟨w2.heap.size, 1, none⟩ = false := var_frozen _ _ _ _
    generalize (w2.alloc (.cells #[.int .i64 0, .slice none 0 0] 34)) = w3 at *
    have hz3 : w2.heap.size ≤ w3.heap.size := he3.size
    have b3 : Below W.heap.size W w3 := b2.trans (he3.below b2.size (by omega))
    replace hr := (hr.below (he3.below (B := W.heap.size) (by omega) (by omega)) (Nat.le_refl _))
    replace hr' := (hr'.below (he3.below (B := W.heap.size) (by omega) (by omega)) (Nat.le_refl _))
    replace aL_0 := he3.cell aL_0 (by simp only; omega)
    replace aL_1 := he3.cell aL_1 (by simp only; omega)
    replace aP_0 := he3.cell aP_0 (by simp only; omega)
    replace aP_1 := he3.cell aP_1 (by simp only; omega)
    replace aL_l := Nat.lt_of_lt_of_le aL_l hz3
    replace aP_l := Nat.lt_of_lt_of_le aP_l hz3
    rw [hs2, hs1] at res_0 res_f0
    rw [hs2, hs1] at res_1 res_f1
    have res_l : W.heap.size + 1 + 1 < w3.heap.size := (by omega)
    refine (impl_LedgerOk q A n c ls w3 (hr.more (by omega)) hn).mono ?_
    rintro e w4 ⟨rfl, hb⟩
    have he4 : Eff 0 0 w3 w4 := Eff.of hb
    have hz4 : w3.heap.size ≤ w4.heap.size := he4.size
    have b4 : Below W.heap.size W w4 := b3.trans (he4.below b3.size (by omega))
    replace hr := (hr.below (he4.below (B := W.heap.size) (by omega) (by omega)) (Nat.le_refl _))
    replace hr' := (hr'.below (he4.below (B := W.heap.size) (by omega) (by omega)) (Nat.le_refl _))
    replace res_f0 := (he4.frozen res_0 (by simp only; omega)).trans res_f0
    replace res_f1 := (he4.frozen res_1 (by simp only; omega)).trans res_f1
    replace aL_0 := he4.cell aL_0 (by simp only; omega)
    replace aL_1 := he4.cell aL_1 (by simp only; omega)
    replace aP_0 := he4.cell aP_0 (by simp only; omega)
    replace aP_1 := he4.cell aP_1 (by simp only; omega)
    replace res_0 := he4.cell res_0 (by simp only; omega)
    replace res_1 := he4.cell res_1 (by simp only; omega)
    replace aL_l := Nat.lt_of_lt_of_le aL_l hz4
    replace aP_l := Nat.lt_of_lt_of_le aP_l hz4
    replace res_l := Nat.lt_of_lt_of_le res_l hz4
    clear hb
    rw [hLok]
    go_wp2_with fail
    refine (impl_PostingOk p A' n' c' ps w4 (hr'.more (by omega)) hn').mono ?_
    rintro e w5 ⟨rfl, hb⟩
    have he5 : Eff 0 0 w4 w5 := Eff.of hb
    have hz5 : w4.heap.size ≤ w5.heap.size := he5.size
    have b5 : Below W.heap.size W w5 := b4.trans (he5.below b4.size (by omega))
    replace hr := (hr.below (he5.below (B := W.heap.size) (by omega) (by omega)) (Nat.le_refl _))
    replace hr' := (hr'.below (he5.below (B := W.heap.size) (by omega) (by omega)) (Nat.le_refl _))
    replace res_f0 := (he5.frozen res_0 (by simp only; omega)).trans res_f0
    replace res_f1 := (he5.frozen res_1 (by simp only; omega)).trans res_f1
    replace aL_0 := he5.cell aL_0 (by simp only; omega)
    replace aL_1 := he5.cell aL_1 (by simp only; omega)
    replace aP_0 := he5.cell aP_0 (by simp only; omega)
    replace aP_1 := he5.cell aP_1 (by simp only; omega)
    replace res_0 := he5.cell res_0 (by simp only; omega)
    replace res_1 := he5.cell res_1 (by simp only; omega)
    replace aL_l := Nat.lt_of_lt_of_le aL_l hz5
    replace aP_l := Nat.lt_of_lt_of_le aP_l hz5
    replace res_l := Nat.lt_of_lt_of_le res_l hz5
    clear hb
    rw [hPok]
    go_wp2_with fail
    refine (impl_merged A n c ls A' n' c' ps w5 (hr.more (by omega)) (hr'.more (by omega)) hc hc' hn hn' ⟨HLa.out, HPa.out⟩).mono ?_
    rintro e w6 hpost
    obtain ⟨Am, cm, rfl, m, hb⟩ := hpost.yes HN.out
    clear hpost
    rw [HK.out] at m ⊢
    have he6 : Eff 0 0 w5 w6 := Eff.of hb
    have hz6 : w5.heap.size ≤ w6.heap.size := he6.size
    have b6 : Below W.heap.size W w6 := b5.trans (he6.below b5.size (by omega))
    replace hr := (hr.below (he6.below (B := W.heap.size) (by omega) (by omega)) (Nat.le_refl _))
    replace hr' := (hr'.below (he6.below (B := W.heap.size) (by omega) (by omega)) (Nat.le_refl _))
    replace res_f0 := (he6.frozen res_0 (by simp only; omega)).trans res_f0
    replace res_f1 := (he6.frozen res_1 (by simp only; omega)).trans res_f1
    replace aL_0 := he6.cell aL_0 (by simp only; omega)
    replace aL_1 := he6.cell aL_1 (by simp only; omega)
    replace aP_0 := he6.cell aP_0 (by simp only; omega)
    replace aP_1 := he6.cell aP_1 (by simp only; omega)
    replace res_0 := he6.cell res_0 (by simp only; omega)
    replace res_1 := he6.cell res_1 (by simp only; omega)
    replace aL_l := Nat.lt_of_lt_of_le aL_l hz6
    replace aP_l := Nat.lt_of_lt_of_le aP_l hz6
    replace res_l := Nat.lt_of_lt_of_le res_l hz6
    clear hb
    go_wp2
    refine bodyPost_ret (v := .tuple #[.agg #[.int .i64 p, .slice Am k cm], .int .i64 0]) (by simp [results, Try.results33, go_sem, *]) rfl ?_
    exact made_led (b := W.heap.size + 1 + 1) m b6 (eff_set2 _ _ _ _) (by omega) (by omega) (by omega)
end Go.Proofs.Ytgjphejmppehjaa
